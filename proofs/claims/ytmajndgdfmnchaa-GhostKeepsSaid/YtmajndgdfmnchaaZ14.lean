/- Part of a proof: what functions of the given program compute, and plain laws of it. -/
import Derived.Test.YtmajndgdfmnchaaZ11
import Derived.Test.YtmajndgdfmnchaaZ12
import Derived.Test.YtmajndgdfmnchaaZ13
/- Queue, of slices that the caller keeps: what it answers is its own. -/
namespace Go.T
open Go
theorem Le.fn {f : Go.Fn} {aas bs : List AV} (hl : aas.length = bs.length) (h : ∀ j, j < bs.length → Le (aas.getD j .undef) (bs.getD j .undef)) : Le (.fn f aas) (.fn f bs) := by
  intro w B e hh v hR
  obtain ⟨vs, rfl, h1, h2⟩ := R_fn hR
  exact .fn _ _ vs (by rw [h1, hl]) (fun j hj => h j hj _ _ _ _ _ (h2 j (by rw [hl]; exact hj)))
theorem Acc.cells {h H : Hp} {sz : Nat} {v : AV} {xs : List AV} (a : Acc h H sz v xs) : v.cells = [v] := by cases a <;> rfl
theorem Le.fnF {f : Go.Fn} {r s : List AV} (h : LeF r s) : Le (.fn f r) (.fn f s) := Le.fn h.length fun j _ => h.getD j
end Go.T
namespace Go.Proofs.Ytmajndgdfmnchaa
open Go Go.T Go.Gh Go.Proofs
set_option linter.unusedSimpArgs false
set_option linter.unusedVariables false
set_option maxRecDepth 10000
set_option maxHeartbeats 4000000
theorem Clone_own (ns : List Note) (ex : Bool) (hlen : ns.length < 2 ^ 30) (h : Hp) : CallK Try.prog 40 [.l ex 6 (ns.map encN)] h (OwnR 6 (ns.map encN) h) := by
  refine CallK.of_awpH mixed (fun _ => []) (fn := Try.f40) (by kernel_rfl) rfl (by kernel_rfl) (by show 1 ≤ _; decide) ?_
  repeat' first
    | (with_reducible refine CondX.dec (fun c => ?_) (fun c => ?_)) <;> try (exfalso; omega)
    | (with_reducible refine CondX.beq (fun c => ?_) (fun c => ?_)) <;> try (exfalso; omega)
    | (with_reducible refine CondX.bne (fun c => ?_) (fun c => ?_)) <;> try (exfalso; omega)
    | (with_reducible refine CondX.bool (fun c => ?_) (fun c => ?_)) <;> try (exfalso; omega)
    | simp only [go_sem, I_eq, I_cells, Nat.reduceAdd, Nat.reduceBEq, Nat.reduceEqDiff, Nat.reduceLeDiff, Nat.reduceLT, Nat.reduceSub]
    | simp (disch := omega) only [wrap_in, toNat_succ, toNat_pred, Int.toNat_natCast]
    | with_reducible refine And.intro (by omega) ?_
    | with_reducible refine exI (by omega) ?_
    | fail
  exact ⟨fun hn => by rw [hn]; exact ⟨.nil, Keeps.refl h⟩, by decide, by omega, by omega, .own _ _ (by simp [Hp.alloc]) (h.ok _ (by simp)), (Keeps.refl h).alloc _ _ _⟩
theorem frzQ' {f : Go.Fn} {H H' : Hp} {L8 L7 L4 L5 : Lab} {a b c d r : AV} (n1 : L7 ≠ L8) (n2 : L4 ≠ L8) (n3 : L5 ≠ L8) (n4 : L4 ≠ L7) (n5 : L5 ≠ L7) (n6 : L5 ≠ L4) (h8 : H.con L8 = .blk [a]) (h7 : H.con L7 = .blk [b]) (h4 : H.con L4 = .blk [c]) (h5 : H.con L5 = .blk [d])
    (ha : ∀ L c, a.frz L c = a) (hb : ∀ L c, b.frz L c = b) (hc : ∀ x, c.frz L5 x = c) (hr : Frz ((((H.set L8 .none).set L7 .none).set L4 .none).set L5 .none) (.fn f [.ip [a], .ip [b], .ip [c], .ip [d]]) H' r) :
    Frz H (.fn f [.pt L8 0 0 0, .pt L7 0 0 0, .pt L4 0 0 0, .pt L5 0 0 0]) H' r := by
  refine .step _ L8 _ _ _ (.step _ L7 _ _ _ (.step _ L4 _ _ _ (.step _ L5 _ _ _ ?_)))
  have e : ((((AV.fn f [.pt L8 0 0 0, .pt L7 0 0 0, .pt L4 0 0 0, .pt L5 0 0 0]).frz L8 (H.con L8)).frz L7 ((H.set L8 .none).con L7)).frz L4 (((H.set L8 .none).set L7 .none).con L4)).frz L5 ((((H.set L8 .none).set L7 .none).set L4 .none).con L5) = .fn f [.ip [a], .ip [b], .ip [c], .ip [d]] := by
    simp [AV.frz, AV.frzs, set_none_con, h8, h7, h4, h5, n1, n2, n3, n4, n5, n6, ha, hb, hc]
  rw [e]; exact hr
theorem Queue_sl (homes : List Int) (ns : List Note) (obj : Int) (x y : AV) (Lh Ln : Lab) (h : Hp) (hh : h.con Lh = .arr 1 (homes.map I ++ [x])) (hn : h.con Ln = .arr 6 (ns.map encN ++ [y])) (hlen : ns.length < 2 ^ 30) :
    CallK Try.prog 16 [.sl Lh 1 0 homes.length, .sl Ln 6 0 ns.length, .int .i64 obj] h (fun r h' => r = QV homes ns obj ∧ h' = h) := by
  refine PureAt.of_awpZ mixed (fun _ => []) (fn := Try.f16) (by kernel_rfl) rfl (by kernel_rfl) (by show 3 ≤ _; decide) (by simp [QV, capsQ, AV.lf, AV.lfs, encN_lfs]) ?_
  have n1 := fun s => lab_ne (L := Lh) (h := h) (by rw [hh]; trivial) 16 s
  have n2 := fun s => lab_ne (L := Ln) (h := h) (by rw [hn]; trivial) 16 s
  rw [awp_assoc]
  refine awp_cutF [(4, 6), (9, 10)] (by kernel_rfl) (fun t => t.slots 4 = .pt ⟨16, 4, h.cnt 16 4⟩ 0 0 0 ∧ t.slots 5 = .pt ⟨16, 5, h.cnt 16 5⟩ 0 0 0 ∧ (∃ v, t.hp.con ⟨16, 4, h.cnt 16 4⟩ = .blk [v] ∧ Acc h t.hp 6 v (ns.map encN) ∧ ∀ L, v = .os L → L ≠ ⟨16, 4, h.cnt 16 4⟩ ∧ L ≠ ⟨16, 5, h.cnt 16 5⟩ ∧ ∀ s, L ≠ ⟨16, s, t.hp.cnt 16 s⟩) ∧ t.hp.con ⟨16, 5, h.cnt 16 5⟩ = .blk [.int .i64 obj] ∧ t.hp.con Lh = h.con Lh ∧ Keeps h t.hp) ?_ ?_
  · repeat' first
      | (with_reducible refine CondX.dec (fun c => ?_) (fun c => ?_)) <;> try (exfalso; omega)
      | (with_reducible refine CondX.beq (fun c => ?_) (fun c => ?_)) <;> try (exfalso; omega)
      | (with_reducible refine CondX.bne (fun c => ?_) (fun c => ?_)) <;> try (exfalso; omega)
      | (with_reducible refine CondX.bool (fun c => ?_) (fun c => ?_)) <;> try (exfalso; omega)
      | simp only [go_sem, I_eq, I_cells, Nat.reduceAdd, Nat.reduceBEq, Nat.reduceEqDiff, Nat.reduceLeDiff, Nat.reduceLT, Nat.reduceSub]
      | simp (disch := omega) only [wrap_in, toNat_succ, toNat_pred, Int.toNat_natCast]
      | with_reducible refine And.intro (by omega) ?_
      | with_reducible refine exI (by omega) ?_
      | fail
    refine CallX.of (CallK.lendOwn [Ln] (fun q => Clone_own ns false hlen q) ?_ ?_ fun v H1 a1 old1 new1 => ?_)
    · simp only [go_sem, I_eq, I_cells, lendA, List.map, AV.frz, hn, n2, Nat.reduceAdd, Nat.reduceBEq, Nat.reduceEqDiff, Nat.reduceLeDiff, Nat.reduceLT, Nat.reduceSub]
      rw [if_pos (by simp), List.take_left' (by simp)]
      exact LeF.refl _
    · exact sns_iff.2 fun x hx => by
        obtain ⟨m, _, rfl⟩ := List.mem_map.1 hx
        simp [encN, AV.sn, AV.sns]
    have q4 : H1.con ⟨16, 4, h.cnt 16 4⟩ = .blk [.sl Ln 6 0 ns.length] := by rw [old1 _ (by simp [Hp.alloc])]; simp only [go_sem, I_eq, I_cells, Nat.reduceAdd, Nat.reduceBEq, Nat.reduceEqDiff, Nat.reduceLeDiff, Nat.reduceLT, Nat.reduceSub]
    have q5 : H1.con ⟨16, 5, h.cnt 16 5⟩ = .blk [.int .i64 obj] := by rw [old1 _ (by simp [Hp.alloc])]; simp only [go_sem, I_eq, I_cells, Nat.reduceAdd, Nat.reduceBEq, Nat.reduceEqDiff, Nat.reduceLeDiff, Nat.reduceLT, Nat.reduceSub]
    have qh : H1.con Lh = h.con Lh := by
      rw [old1 Lh (lt_of_con (c := .arr 1 (homes.map I ++ [x])) (by simp only [go_sem, I_eq, I_cells, n1, hh, Nat.reduceAdd, Nat.reduceBEq, Nat.reduceEqDiff, Nat.reduceLeDiff, Nat.reduceLT, Nat.reduceSub]) (by simp))]; simp only [go_sem, I_eq, I_cells, n1, Nat.reduceAdd, Nat.reduceBEq, Nat.reduceEqDiff, Nat.reduceLeDiff, Nat.reduceLT, Nat.reduceSub]
    have hv : v.cells = [v] := a1.cells
    have hvc := a1.cell
    have kk : Keeps h H1 := old_keeps (((Keeps.refl h).alloc 16 4 _).alloc 16 5 _) old1
    have a1' : Acc h H1 6 v (ns.map encN) := a1.trans (((Keeps.refl h).alloc 16 4 _).alloc 16 5 _)
    repeat' first
      | (with_reducible refine CondX.dec (fun c => ?_) (fun c => ?_)) <;> try (exfalso; omega)
      | (with_reducible refine CondX.beq (fun c => ?_) (fun c => ?_)) <;> try (exfalso; omega)
      | (with_reducible refine CondX.bne (fun c => ?_) (fun c => ?_)) <;> try (exfalso; omega)
      | (with_reducible refine CondX.bool (fun c => ?_) (fun c => ?_)) <;> try (exfalso; omega)
      | simp only [go_sem, I_eq, I_cells, q4, q5, hv, hvc, qh, n1, Nat.reduceAdd, Nat.reduceBEq, Nat.reduceEqDiff, Nat.reduceLeDiff, Nat.reduceLT, Nat.reduceSub]
      | simp (disch := omega) only [wrap_in, toNat_succ, toNat_pred, Int.toNat_natCast]
      | with_reducible refine And.intro (by omega) ?_
      | with_reducible refine exI (by omega) ?_
      | fail
    exact ⟨⟨v, rfl, a1'.mono (fun L hL => set_con_ne (fun hE => new1 L hL (by rw [hE]; simp [Hp.alloc]))), fun L hL => ⟨fun hE => new1 L hL (by rw [hE]; simp [Hp.alloc]), fun hE => new1 L hL (by rw [hE]; simp [Hp.alloc]), fun s hE => absurd (a1.old L hL) (by rw [hE]; simp)⟩⟩, kk.set (h.ok _ (by simp)) _⟩
  rintro s0 f0 ⟨g4, g5, ⟨v, k4, a4, l4⟩, k5, kh, gK⟩
  rw [hh] at kh
  have e4 : ∀ s, ((⟨16, 4, h.cnt 16 4⟩ : Lab) = ⟨16, s, s0.hp.cnt 16 s⟩) = False := fun s => lab_ne (by rw [k4]; trivial) 16 s
  have e5 : ∀ s, ((⟨16, 5, h.cnt 16 5⟩ : Lab) = ⟨16, s, s0.hp.cnt 16 s⟩) = False := fun s => lab_ne (by rw [k5]; trivial) 16 s
  have eh : ∀ s, (Lh = ⟨16, s, s0.hp.cnt 16 s⟩) = False := fun s => lab_ne (by rw [kh]; trivial) 16 s
  have hQ : QV homes ns obj = .fn (.func 41) [.ip [.int .i64 (if 0 ≤ obj ∧ obj < homes.length then homes.getD obj.toNat 0 else 0)], .ip [.bool (decide (0 ≤ obj ∧ obj < homes.length))], .ip [.l false 6 (ns.map encN)], .ip [.int .i64 obj]] := rfl
  have lv : ∀ L, v = .os L → L.k < s0.hp.cnt L.f L.s := a4.old
  have fin : ∀ (a b : AV) (G : Hp), G.con ⟨16, 8, s0.hp.cnt 16 8⟩ = .blk [a] → G.con ⟨16, 7, s0.hp.cnt 16 7⟩ = .blk [b] → G.con ⟨16, 4, h.cnt 16 4⟩ = .blk [v] → G.con ⟨16, 5, h.cnt 16 5⟩ = .blk [.int .i64 obj] → Acc h G 6 v (ns.map encN) → Keeps h G → (∀ L c, a.frz L c = a) → (∀ L c, b.frz L c = b) →
      QV homes ns obj = .fn (.func 41) [.ip [a], .ip [b], .ip [.l false 6 (ns.map encN)], .ip [.int .i64 obj]] →
      ∃ h'', Frz G (.fn (.func 41) [.pt ⟨16, 8, s0.hp.cnt 16 8⟩ 0 0 0, .pt ⟨16, 7, s0.hp.cnt 16 7⟩ 0 0 0, .pt ⟨16, 4, h.cnt 16 4⟩ 0 0 0, .pt ⟨16, 5, h.cnt 16 5⟩ 0 0 0]) h'' (QV homes ns obj) ∧ Keeps h h'' := by
    intro a b G k8 k7 k4' k5' aG kG ha hb hq
    have q8 : h.con ⟨16, 8, s0.hp.cnt 16 8⟩ = .none := gK.new 16 8
    have q7 : h.con ⟨16, 7, s0.hp.cnt 16 7⟩ = .none := gK.new 16 7
    have kG4 := ((((kG.set q8 .none).set q7 .none).set (h.ok _ (by simp) : h.con ⟨16, 4, h.cnt 16 4⟩ = .none) .none).set (h.ok _ (by simp) : h.con ⟨16, 5, h.cnt 16 5⟩ = .none) .none)
    have aG4 : Acc h ((((G.set ⟨16, 8, s0.hp.cnt 16 8⟩ .none).set ⟨16, 7, s0.hp.cnt 16 7⟩ .none).set ⟨16, 4, h.cnt 16 4⟩ .none).set ⟨16, 5, h.cnt 16 5⟩ .none) 6 v (ns.map encN) := aG.mono fun L hL => by
      obtain ⟨r4, r5, rs⟩ := l4 L hL
      rw [set_con_ne r5, set_con_ne r4, set_con_ne (rs 7), set_con_ne (rs 8)]
    obtain ⟨H', f1, k1⟩ := aG4.frzK (fun x => .fn (.func 41) [.ip [a], .ip [b], .ip [x], .ip [.int .i64 obj]]) kG4 (fun L c w => by simp [AV.frz, AV.frzs, ha, hb]) (fun w w' hw => Le.fnF (.cons (Le.refl _) (.cons (Le.refl _) (.cons (Le.ip rfl (fun j hj => by
      have : j = 0 := by simp at hj; omega
      subst this; exact hw)) (LeF.refl _)))))
    refine ⟨H', ?_, k1⟩
    rw [hq]
    exact frzQ' (by simp) (fun hE => by have := e4 8; rw [hE] at this; simp at this) (fun hE => by have := e5 8; rw [hE] at this; simp at this) (fun hE => by have := e4 7; rw [hE] at this; simp at this) (fun hE => by have := e5 7; rw [hE] at this; simp at this) (by simp) k8 k7 k4' k5' ha hb (fun c => aG.frz_ne (fun M hM => (l4 M hM).2.1) c) f1
  cases b1 : decide (obj ≥ 0) <;> cases b2 : decide (obj < homes.length)
  · repeat' first
      | (with_reducible refine CondX.dec (fun c => ?_) (fun c => ?_)) <;> try (exfalso; omega)
      | (with_reducible refine CondX.beq (fun c => ?_) (fun c => ?_)) <;> try (exfalso; omega)
      | (with_reducible refine CondX.bne (fun c => ?_) (fun c => ?_)) <;> try (exfalso; omega)
      | (with_reducible refine CondX.bool (fun c => ?_) (fun c => ?_)) <;> try (exfalso; omega)
      | simp only [go_sem, I_eq, I_cells, Frm.at f0, g4, g5, k4, k5, kh, e4, e5, eh, b1, b2, List.length_append, List.length_map, List.length_singleton, Nat.reduceAdd, Nat.reduceBEq, Nat.reduceEqDiff, Nat.reduceLeDiff, Nat.reduceLT, Nat.reduceSub]
      | simp (disch := omega) only [wrap_in, toNat_succ, toNat_pred, Int.toNat_natCast]
      | with_reducible refine And.intro (by omega) ?_
      | with_reducible refine exI (by omega) ?_
      | fail
    refine fin (.int .i64 0) (.bool false) _ (by simp only [go_sem, I_eq, I_cells, Nat.reduceAdd, Nat.reduceBEq, Nat.reduceEqDiff, Nat.reduceLeDiff, Nat.reduceLT, Nat.reduceSub]) (by simp only [go_sem, I_eq, I_cells, Nat.reduceAdd, Nat.reduceBEq, Nat.reduceEqDiff, Nat.reduceLeDiff, Nat.reduceLT, Nat.reduceSub]) (by simp only [go_sem, I_eq, I_cells, k4, e4, Nat.reduceAdd, Nat.reduceBEq, Nat.reduceEqDiff, Nat.reduceLeDiff, Nat.reduceLT, Nat.reduceSub]) (by simp only [go_sem, I_eq, I_cells, k5, e5, Nat.reduceAdd, Nat.reduceBEq, Nat.reduceEqDiff, Nat.reduceLeDiff, Nat.reduceLT, Nat.reduceSub]) ((a4.alloc _ _ _).alloc _ _ _) (by ((repeat first | with_reducible apply Keeps.alloc | (with_reducible refine Keeps.set ?_ ?hL _; case hL => first | assumption | exact Hp.ok _ _ (by simp) | exact Keeps.new (by assumption) _ _)); first | assumption | exact Keeps.refl _)) (fun _ _ => rfl) (fun _ _ => rfl) ?_
    have : ¬ (0 ≤ obj ∧ obj < homes.length) := by simp at b1; omega
    simp only [hQ, this, if_false, decide_false]
  · repeat' first
      | (with_reducible refine CondX.dec (fun c => ?_) (fun c => ?_)) <;> try (exfalso; omega)
      | (with_reducible refine CondX.beq (fun c => ?_) (fun c => ?_)) <;> try (exfalso; omega)
      | (with_reducible refine CondX.bne (fun c => ?_) (fun c => ?_)) <;> try (exfalso; omega)
      | (with_reducible refine CondX.bool (fun c => ?_) (fun c => ?_)) <;> try (exfalso; omega)
      | simp only [go_sem, I_eq, I_cells, Frm.at f0, g4, g5, k4, k5, kh, e4, e5, eh, b1, b2, List.length_append, List.length_map, List.length_singleton, Nat.reduceAdd, Nat.reduceBEq, Nat.reduceEqDiff, Nat.reduceLeDiff, Nat.reduceLT, Nat.reduceSub]
      | simp (disch := omega) only [wrap_in, toNat_succ, toNat_pred, Int.toNat_natCast]
      | with_reducible refine And.intro (by omega) ?_
      | with_reducible refine exI (by omega) ?_
      | fail
    refine fin (.int .i64 0) (.bool false) _ (by simp only [go_sem, I_eq, I_cells, Nat.reduceAdd, Nat.reduceBEq, Nat.reduceEqDiff, Nat.reduceLeDiff, Nat.reduceLT, Nat.reduceSub]) (by simp only [go_sem, I_eq, I_cells, Nat.reduceAdd, Nat.reduceBEq, Nat.reduceEqDiff, Nat.reduceLeDiff, Nat.reduceLT, Nat.reduceSub]) (by simp only [go_sem, I_eq, I_cells, k4, e4, Nat.reduceAdd, Nat.reduceBEq, Nat.reduceEqDiff, Nat.reduceLeDiff, Nat.reduceLT, Nat.reduceSub]) (by simp only [go_sem, I_eq, I_cells, k5, e5, Nat.reduceAdd, Nat.reduceBEq, Nat.reduceEqDiff, Nat.reduceLeDiff, Nat.reduceLT, Nat.reduceSub]) ((a4.alloc _ _ _).alloc _ _ _) (by ((repeat first | with_reducible apply Keeps.alloc | (with_reducible refine Keeps.set ?_ ?hL _; case hL => first | assumption | exact Hp.ok _ _ (by simp) | exact Keeps.new (by assumption) _ _)); first | assumption | exact Keeps.refl _)) (fun _ _ => rfl) (fun _ _ => rfl) ?_
    have : ¬ (0 ≤ obj ∧ obj < homes.length) := by simp at b1; omega
    simp only [hQ, this, if_false, decide_false]
  · repeat' first
      | (with_reducible refine CondX.dec (fun c => ?_) (fun c => ?_)) <;> try (exfalso; omega)
      | (with_reducible refine CondX.beq (fun c => ?_) (fun c => ?_)) <;> try (exfalso; omega)
      | (with_reducible refine CondX.bne (fun c => ?_) (fun c => ?_)) <;> try (exfalso; omega)
      | (with_reducible refine CondX.bool (fun c => ?_) (fun c => ?_)) <;> try (exfalso; omega)
      | simp only [go_sem, I_eq, I_cells, Frm.at f0, g4, g5, k4, k5, kh, e4, e5, eh, b1, b2, List.length_append, List.length_map, List.length_singleton, Nat.reduceAdd, Nat.reduceBEq, Nat.reduceEqDiff, Nat.reduceLeDiff, Nat.reduceLT, Nat.reduceSub]
      | simp (disch := omega) only [wrap_in, toNat_succ, toNat_pred, Int.toNat_natCast]
      | with_reducible refine And.intro (by omega) ?_
      | with_reducible refine exI (by omega) ?_
      | fail
    refine fin (.int .i64 0) (.bool false) _ (by simp only [go_sem, I_eq, I_cells, Nat.reduceAdd, Nat.reduceBEq, Nat.reduceEqDiff, Nat.reduceLeDiff, Nat.reduceLT, Nat.reduceSub]) (by simp only [go_sem, I_eq, I_cells, Nat.reduceAdd, Nat.reduceBEq, Nat.reduceEqDiff, Nat.reduceLeDiff, Nat.reduceLT, Nat.reduceSub]) (by simp only [go_sem, I_eq, I_cells, k4, e4, Nat.reduceAdd, Nat.reduceBEq, Nat.reduceEqDiff, Nat.reduceLeDiff, Nat.reduceLT, Nat.reduceSub]) (by simp only [go_sem, I_eq, I_cells, k5, e5, Nat.reduceAdd, Nat.reduceBEq, Nat.reduceEqDiff, Nat.reduceLeDiff, Nat.reduceLT, Nat.reduceSub]) ((a4.alloc _ _ _).alloc _ _ _) (by ((repeat first | with_reducible apply Keeps.alloc | (with_reducible refine Keeps.set ?_ ?hL _; case hL => first | assumption | exact Hp.ok _ _ (by simp) | exact Keeps.new (by assumption) _ _)); first | assumption | exact Keeps.refl _)) (fun _ _ => rfl) (fun _ _ => rfl) ?_
    have : ¬ (0 ≤ obj ∧ obj < homes.length) := by simp at b2; omega
    simp only [hQ, this, if_false, decide_false]
  · repeat' first
      | (with_reducible refine CondX.dec (fun c => ?_) (fun c => ?_)) <;> try (exfalso; omega)
      | (with_reducible refine CondX.beq (fun c => ?_) (fun c => ?_)) <;> try (exfalso; omega)
      | (with_reducible refine CondX.bne (fun c => ?_) (fun c => ?_)) <;> try (exfalso; omega)
      | (with_reducible refine CondX.bool (fun c => ?_) (fun c => ?_)) <;> try (exfalso; omega)
      | simp only [go_sem, I_eq, I_cells, Frm.at f0, g4, g5, k4, k5, kh, e4, e5, eh, b1, b2, List.length_append, List.length_map, List.length_singleton, Nat.reduceAdd, Nat.reduceBEq, Nat.reduceEqDiff, Nat.reduceLeDiff, Nat.reduceLT, Nat.reduceSub]
      | simp (disch := omega) only [wrap_in, toNat_succ, toNat_pred, Int.toNat_natCast]
      | with_reducible refine And.intro (by omega) ?_
      | with_reducible refine exI (by omega) ?_
      | fail
    have o0 : 0 ≤ obj := by simpa using b1
    have o1 : obj < homes.length := by simpa using b2
    have ok : obj.toNat < homes.length := by omega
    have hel : (homes.map I ++ [x])[obj.toNat]'(by simp; omega) = I homes[obj.toNat] := by
      rw [List.getElem_append_left (by simpa using ok), List.getElem_map]
    refine ⟨o0, ok, by simp; omega, ?_⟩
    rw [hel]
    refine ⟨rfl, rfl, ?_⟩
    refine fin (.int .i64 homes[obj.toNat]) (.bool true) _ (by simp only [go_sem, I_eq, I_cells, Nat.reduceAdd, Nat.reduceBEq, Nat.reduceEqDiff, Nat.reduceLeDiff, Nat.reduceLT, Nat.reduceSub]) (by simp only [go_sem, I_eq, I_cells, Nat.reduceAdd, Nat.reduceBEq, Nat.reduceEqDiff, Nat.reduceLeDiff, Nat.reduceLT, Nat.reduceSub]) (by simp only [go_sem, I_eq, I_cells, k4, e4, Nat.reduceAdd, Nat.reduceBEq, Nat.reduceEqDiff, Nat.reduceLeDiff, Nat.reduceLT, Nat.reduceSub]) (by simp only [go_sem, I_eq, I_cells, k5, e5, Nat.reduceAdd, Nat.reduceBEq, Nat.reduceEqDiff, Nat.reduceLeDiff, Nat.reduceLT, Nat.reduceSub]) ((a4.alloc _ _ _).alloc _ _ _) (by ((repeat first | with_reducible apply Keeps.alloc | (with_reducible refine Keeps.set ?_ ?hL _; case hL => first | assumption | exact Hp.ok _ _ (by simp) | exact Keeps.new (by assumption) _ _)); first | assumption | exact Keeps.refl _)) (fun _ _ => rfl) (fun _ _ => rfl) ?_
    have hb : (0 ≤ obj ∧ obj < homes.length) := ⟨o0, o1⟩
    simp only [hQ, hb, and_self, if_true, decide_true, List.getD_eq_getElem?_getD, List.getElem?_eq_getElem ok, Option.getD_some]
end Go.Proofs.Ytmajndgdfmnchaa
/- GhostKeeps: what is handed in stays; what Queue answers is its own. -/
namespace Go.Proofs.Ytmajndgdfmnchaa
open Go Go.T Go.Gh Go.Proofs
set_option linter.unusedSimpArgs false
set_option linter.unusedVariables false
set_option maxRecDepth 10000
set_option maxHeartbeats 4000000
theorem GhostKeeps_good (homes : List Int) (eh : Bool) (ns : List Note) (ex : Bool) (obj : Int) (hl : ns.length ≤ 512) (hb : homes.length * 8 ≤ 140737488351232) :
    PureF Try.prog 6 [.l eh 1 (homes.map I), .l ex 6 (ns.map encN), .int .i64 obj] (.bool true) := by
  refine PureF.of_awp mixed (fun _ => []) (fn := Try.f6) (by kernel_rfl) rfl (by kernel_rfl) (by show 3 ≤ _; decide) (by simp [AV.lf]) (fun h => ?_)
  have d512 : decide ((ns.length : Int) > 512) = false := by simp; omega
  rw [awp_assoc, awp_assoc, awp_assoc, awp_assoc]
  refine awp_cutF [(6, 8), (20, 35)] (by kernel_rfl) (fun t => t.slots 6 = .pt ⟨6, 6, h.cnt 6 6⟩ 0 0 0 ∧ t.hp.con ⟨6, 6, h.cnt 6 6⟩ = .blk [.bool false] ∧ t.slots 7 = .os ⟨6, 29, h.cnt 6 29⟩ ∧ t.slots 8 = .os ⟨6, 35, h.cnt 6 35⟩ ∧ t.hp.con ⟨6, 29, h.cnt 6 29⟩ = .arr 1 (homes.map I ++ [I 71]) ∧ t.hp.con ⟨6, 35, h.cnt 6 35⟩ = .arr 6 (ns.map encN ++ [.agg [AV.int .i64 72, .int .i64 0, .int .i64 0, .int .i64 0, .int .i64 0, .int .i64 0]]) ∧ Keeps h t.hp) ?_ ?_
  · repeat' first
      | (with_reducible refine CondX.dec (fun c => ?_) (fun c => ?_)) <;> try (exfalso; omega)
      | (with_reducible refine CondX.beq (fun c => ?_) (fun c => ?_)) <;> try (exfalso; omega)
      | (with_reducible refine CondX.bne (fun c => ?_) (fun c => ?_)) <;> try (exfalso; omega)
      | (with_reducible refine CondX.bool (fun c => ?_) (fun c => ?_)) <;> try (exfalso; omega)
      | ((with_reducible refine CallX.id ?_); first | refine CallX.pure (f12_spec) ?_)
      | simp only [go_sem, I_eq, I_cells, d512, Nat.reduceAdd, Nat.reduceBEq, Nat.reduceEqDiff, Nat.reduceLeDiff, Nat.reduceLT, Nat.reduceSub]
      | simp (disch := omega) only [wrap_in, toNat_succ, toNat_pred, Int.toNat_natCast]
      | with_reducible refine And.intro (by omega) ?_
      | with_reducible refine exI (by omega) ?_
      | fail
    ((repeat first | with_reducible apply Keeps.alloc | (with_reducible refine Keeps.set ?_ ?hL _; case hL => first | assumption | exact Hp.ok _ _ (by simp) | exact Keeps.new (by assumption) _ _)); first | assumption | exact Keeps.refl _)
  rintro s0 f0 ⟨g6, k6, g7, g8, kh, kn, gK⟩
  have nv : ∀ s, h.con ⟨6, s, h.cnt 6 s⟩ = .none := fun s => h.ok _ (by simp)
  rw [awp_assoc]
  refine awp_cutF [(9, 11), (36, 57)] (by kernel_rfl) (fun t => t.slots 9 = QV homes ns obj ∧ t.slots 10 = .int .i64 (checkR homes ns).1 ∧ t.slots 11 = .int .i64 (checkR homes ns).2 ∧ t.hp = s0.hp) ?_ ?_
  · repeat' first
      | (with_reducible refine CondX.dec (fun c => ?_) (fun c => ?_)) <;> try (exfalso; omega)
      | (with_reducible refine CondX.beq (fun c => ?_) (fun c => ?_)) <;> try (exfalso; omega)
      | (with_reducible refine CondX.bne (fun c => ?_) (fun c => ?_)) <;> try (exfalso; omega)
      | (with_reducible refine CondX.bool (fun c => ?_) (fun c => ?_)) <;> try (exfalso; omega)
      | simp only [go_sem, I_eq, I_cells, Frm.at f0, g6, k6, g7, g8, kh, kn, List.length_append, List.length_map, List.length_singleton, Int.toNat_natCast, Nat.reduceAdd, Nat.reduceBEq, Nat.reduceEqDiff, Nat.reduceLeDiff, Nat.reduceLT, Nat.reduceSub]
      | simp (disch := omega) only [wrap_in, toNat_succ, toNat_pred, Int.toNat_natCast]
      | with_reducible refine And.intro (by omega) ?_
      | with_reducible refine exI (by omega) ?_
      | fail
    refine CallX.at (Queue_sl homes ns obj (I 71) (.agg [AV.int .i64 72, .int .i64 0, .int .i64 0, .int .i64 0, .int .i64 0, .int .i64 0]) _ _ _ kh kn (by omega)) ?_
    repeat' first
      | (with_reducible refine CondX.dec (fun c => ?_) (fun c => ?_)) <;> try (exfalso; omega)
      | (with_reducible refine CondX.beq (fun c => ?_) (fun c => ?_)) <;> try (exfalso; omega)
      | (with_reducible refine CondX.bne (fun c => ?_) (fun c => ?_)) <;> try (exfalso; omega)
      | (with_reducible refine CondX.bool (fun c => ?_) (fun c => ?_)) <;> try (exfalso; omega)
      | simp only [go_sem, I_eq, I_cells, Frm.at f0, g6, k6, g7, g8, kh, kn, List.length_append, List.length_map, List.length_singleton, Int.toNat_natCast, Nat.reduceAdd, Nat.reduceBEq, Nat.reduceEqDiff, Nat.reduceLeDiff, Nat.reduceLT, Nat.reduceSub]
      | simp (disch := omega) only [wrap_in, toNat_succ, toNat_pred, Int.toNat_natCast]
      | with_reducible refine And.intro (by omega) ?_
      | with_reducible refine exI (by omega) ?_
      | fail
    refine CallX.of (CallK.lendL [⟨6, 29, h.cnt 6 29⟩, ⟨6, 35, h.cnt 6 35⟩] (f13_spec homes false ns false (by omega)) ?_ (by simp [pairV, AV.sn, AV.sns]) ?_)
    · simp only [lendA, List.map, AV.frz, kh, kn, set_none_con, Lab.mk.injEq, Nat.reduceEqDiff, false_and, and_false, if_false, if_true, Nat.zero_add, List.drop_zero]
      rw [if_pos (by simp), if_pos (by simp), List.take_left' (by simp), List.take_left' (by simp)]
      simp only [AV.frz, frzs_lf _ _ _ (I_lfs homes)]
      exact LeF.refl _
    repeat' first
      | (with_reducible refine CondX.dec (fun c => ?_) (fun c => ?_)) <;> try (exfalso; omega)
      | (with_reducible refine CondX.beq (fun c => ?_) (fun c => ?_)) <;> try (exfalso; omega)
      | (with_reducible refine CondX.bne (fun c => ?_) (fun c => ?_)) <;> try (exfalso; omega)
      | (with_reducible refine CondX.bool (fun c => ?_) (fun c => ?_)) <;> try (exfalso; omega)
      | simp only [go_sem, I_eq, I_cells, Frm.at f0, g6, k6, g7, g8, kh, kn, pairV, Nat.reduceAdd, Nat.reduceBEq, Nat.reduceEqDiff, Nat.reduceLeDiff, Nat.reduceLT, Nat.reduceSub]
      | simp (disch := omega) only [wrap_in, toNat_succ, toNat_pred, Int.toNat_natCast]
      | with_reducible refine And.intro (by omega) ?_
      | with_reducible refine exI (by omega) ?_
      | fail
  rintro s1 f1 ⟨g9, g10, g11, hs1⟩
  rw [← hs1] at kh kn k6 gK
  clear hs1
  have en : ∀ hx : ns.length < (ns.map encN ++ [AV.agg [AV.int .i64 72, .int .i64 0, .int .i64 0, .int .i64 0, .int .i64 0, .int .i64 0]]).length, (ns.map encN ++ [AV.agg [AV.int .i64 72, .int .i64 0, .int .i64 0, .int .i64 0, .int .i64 0, .int .i64 0]])[ns.length]'hx = .agg [AV.int .i64 72, .int .i64 0, .int .i64 0, .int .i64 0, .int .i64 0, .int .i64 0] := fun hx => by
    rw [List.getElem_append_right (by simp)]; simp
  have eh' : ∀ hx : homes.length < (homes.map I ++ [AV.int .i64 71]).length, (homes.map I ++ [AV.int .i64 71])[homes.length] = .int .i64 71 := fun hx => by
    rw [List.getElem_append_right (by simp)]; simp
  refine awp_cutF [(58, 85)] (by kernel_rfl) (fun t => t.hp = s1.hp) ?_ ?_
  · repeat' first
      | (with_reducible refine CondX.dec (fun c => ?_) (fun c => ?_)) <;> try (exfalso; omega)
      | (with_reducible refine CondX.beq (fun c => ?_) (fun c => ?_)) <;> try (exfalso; omega)
      | (with_reducible refine CondX.bne (fun c => ?_) (fun c => ?_)) <;> try (exfalso; omega)
      | (with_reducible refine CondX.bool (fun c => ?_) (fun c => ?_)) <;> try (exfalso; omega)
      | simp only [go_sem, I_eq, I_cells, Frm.at f1, Frm.at f0, g6, k6, g7, g8, g9, kh, kn, List.length_append, List.length_map, List.length_singleton, Int.toNat_natCast, Nat.reduceAdd, Nat.reduceBEq, Nat.reduceEqDiff, Nat.reduceLeDiff, Nat.reduceLT, Nat.reduceSub]
      | simp (disch := omega) only [wrap_in, toNat_succ, toNat_pred, Int.toNat_natCast]
      | with_reducible refine And.intro (by omega) ?_
      | with_reducible refine exI (by omega) ?_
      | fail
    refine CallX.of (CallK.lendL [⟨6, 35, h.cnt 6 35⟩] (sameNotes_spec ns false ex (by omega)) ?_ (by simp [AV.sn]) ?_)
    · simp only [lendA, List.map, AV.frz, kn, if_true, Nat.zero_add, List.drop_zero, frzs_lf _ _ _ (encN_lfs ns)]
      rw [if_pos (by simp), List.take_left' (by simp)]
      exact LeF.refl _
    repeat' first
      | (with_reducible refine CondX.dec (fun c => ?_) (fun c => ?_)) <;> try (exfalso; omega)
      | (with_reducible refine CondX.beq (fun c => ?_) (fun c => ?_)) <;> try (exfalso; omega)
      | (with_reducible refine CondX.bne (fun c => ?_) (fun c => ?_)) <;> try (exfalso; omega)
      | (with_reducible refine CondX.bool (fun c => ?_) (fun c => ?_)) <;> try (exfalso; omega)
      | simp only [go_sem, I_eq, I_cells, Frm.at f1, Frm.at f0, g6, k6, g7, g8, g9, kh, kn, QV_eq, en, eh', cells_agg, List.length_append, List.length_map, List.length_singleton, Int.toNat_natCast, Nat.reduceAdd, Nat.reduceBEq, Nat.reduceEqDiff, Nat.reduceLeDiff, Nat.reduceLT, Nat.reduceSub]
      | simp (disch := omega) only [wrap_in, toNat_succ, toNat_pred, Int.toNat_natCast]
      | with_reducible refine And.intro (by omega) ?_
      | with_reducible refine exI (by omega) ?_
      | fail
    all_goals trace_state
  rintro s2 f2 hs2
  rw [← hs2] at kh kn k6 gK
  clear hs2 en eh'
  refine awp_cutF [(12, 12), (86, 103)] (by kernel_rfl) (fun t => t.hp.con ⟨6, 6, h.cnt 6 6⟩ = .blk [.bool false] ∧ t.hp.con ⟨6, 35, h.cnt 6 35⟩ = .arr 6 (ns.map encN ++ [.agg [AV.int .i64 72, .int .i64 0, .int .i64 0, .int .i64 0, .int .i64 0, .int .i64 0]]) ∧ Keeps h t.hp) ?_ ?_
  · repeat' first
      | (with_reducible refine CondX.dec (fun c => ?_) (fun c => ?_)) <;> try (exfalso; omega)
      | (with_reducible refine CondX.beq (fun c => ?_) (fun c => ?_)) <;> try (exfalso; omega)
      | (with_reducible refine CondX.bne (fun c => ?_) (fun c => ?_)) <;> try (exfalso; omega)
      | (with_reducible refine CondX.bool (fun c => ?_) (fun c => ?_)) <;> try (exfalso; omega)
      | simp only [go_sem, I_eq, I_cells, Frm.at f2, Frm.at f1, Frm.at f0, g6, k6, g7, g8, List.length_map, Nat.reduceAdd, Nat.reduceBEq, Nat.reduceEqDiff, Nat.reduceLeDiff, Nat.reduceLT, Nat.reduceSub]
      | simp (disch := omega) only [wrap_in, toNat_succ, toNat_pred, Int.toNat_natCast]
      | with_reducible refine And.intro (by omega) ?_
      | with_reducible refine exI (by omega) ?_
      | fail
    refine awp_countF [(12, 12), (88, 103)] (by kernel_rfl) 88 87 (by kernel_rfl) homes.length (by omega) (fun i t => (∃ ys : List AV, t.hp.con ⟨6, 29, h.cnt 6 29⟩ = .arr 1 ys ∧ ys.length = homes.length + 1 ∧ ∀ j, i ≤ j → (hj : j < homes.length) → ys[j]? = some (I homes[j])) ∧ t.hp.con ⟨6, 6, h.cnt 6 6⟩ = .blk [.bool false] ∧ t.hp.con ⟨6, 35, h.cnt 6 35⟩ = .arr 6 (ns.map encN ++ [.agg [AV.int .i64 72, .int .i64 0, .int .i64 0, .int .i64 0, .int .i64 0, .int .i64 0]]) ∧ Keeps h t.hp) ?_ ?_ ?_ ?_ ?_
    · simp only [go_sem, I_eq, I_cells, Nat.reduceAdd, Nat.reduceBEq, Nat.reduceEqDiff, Nat.reduceLeDiff, Nat.reduceLT, Nat.reduceSub]
    · simp only [go_sem, I_eq, I_cells, Nat.reduceAdd, Nat.reduceBEq, Nat.reduceEqDiff, Nat.reduceLeDiff, Nat.reduceLT, Nat.reduceSub]
    · simp only [go_sem, I_eq, I_cells, Nat.reduceAdd, Nat.reduceBEq, Nat.reduceEqDiff, Nat.reduceLeDiff, Nat.reduceLT, Nat.reduceSub]
      refine ⟨⟨_, kh, by simp, fun j _ hj => ?_⟩, k6, kn, gK⟩
      rw [List.getElem?_append_left (by simpa using hj)]
      simp [hj]
      rfl
    · clear kh kn k6 gK
      rintro i t hlt d2 hw f3 ga gb ⟨⟨ys, kh, hy, hys⟩, k6, kn, gK⟩
      have hyl : i < ys.length := by omega
      have hyi : ∀ hx : i < ys.length, ys[i]'hx = .int .i64 homes[i] := fun hx => by
        have := hys i (Nat.le_refl _) hlt
        rw [List.getElem?_eq_getElem hx] at this
        exact Option.some.inj this
      repeat' first
        | (with_reducible refine CondX.dec (fun c => ?_) (fun c => ?_)) <;> try (exfalso; omega)
        | (with_reducible refine CondX.beq (fun c => ?_) (fun c => ?_)) <;> try (exfalso; omega)
        | (with_reducible refine CondX.bne (fun c => ?_) (fun c => ?_)) <;> try (exfalso; omega)
        | (with_reducible refine CondX.bool (fun c => ?_) (fun c => ?_)) <;> try (exfalso; omega)
        | simp only [go_sem, I_eq, I_cells, Frm.at f3, Frm.at f2, Frm.at f1, Frm.at f0, g6, k6, g7, g8, kh, kn, ga, gb, d2, hw, hyi, AV.over, Nat.reduceAdd, Nat.reduceBEq, Nat.reduceEqDiff, Nat.reduceLeDiff, Nat.reduceLT, Nat.reduceSub]
        | simp (disch := omega) only [wrap_in, toNat_succ, toNat_pred, Int.toNat_natCast]
        | with_reducible refine And.intro (by omega) ?_
        | with_reducible refine exI (by omega) ?_
        | fail
      all_goals first
        | exact absurd rfl c
        | exact ⟨⟨_, rfl, by rw [List.length_set]; exact hy, fun j hj1 hj => by rw [List.getElem?_set_ne (by omega)]; exact hys j (by omega) hj⟩, gK.set (nv 29) _⟩
    · rintro t d2 f3 ga gb ⟨-, k6, kn, gK⟩
      repeat' first
        | (with_reducible refine CondX.dec (fun c => ?_) (fun c => ?_)) <;> try (exfalso; omega)
        | (with_reducible refine CondX.beq (fun c => ?_) (fun c => ?_)) <;> try (exfalso; omega)
        | (with_reducible refine CondX.bne (fun c => ?_) (fun c => ?_)) <;> try (exfalso; omega)
        | (with_reducible refine CondX.bool (fun c => ?_) (fun c => ?_)) <;> try (exfalso; omega)
        | simp only [go_sem, I_eq, I_cells, Frm.at f3, Frm.at f2, Frm.at f1, Frm.at f0, g6, g7, g8, ga, gb, d2, Nat.reduceAdd, Nat.reduceBEq, Nat.reduceEqDiff, Nat.reduceLeDiff, Nat.reduceLT, Nat.reduceSub]
        | simp (disch := omega) only [wrap_in, toNat_succ, toNat_pred, Int.toNat_natCast]
        | with_reducible refine And.intro (by omega) ?_
        | with_reducible refine exI (by omega) ?_
        | fail
      first | exact gK | exact ⟨k6, kn, gK⟩
  clear kh kn k6 gK
  rintro s3 f3 ⟨k6, kn, gK⟩
  refine awp_cutF [(13, 13), (104, 113)] (by kernel_rfl) (fun t => t.hp.con ⟨6, 6, h.cnt 6 6⟩ = .blk [.bool false] ∧ Keeps h t.hp) ?_ ?_
  · repeat' first
      | (with_reducible refine CondX.dec (fun c => ?_) (fun c => ?_)) <;> try (exfalso; omega)
      | (with_reducible refine CondX.beq (fun c => ?_) (fun c => ?_)) <;> try (exfalso; omega)
      | (with_reducible refine CondX.bne (fun c => ?_) (fun c => ?_)) <;> try (exfalso; omega)
      | (with_reducible refine CondX.bool (fun c => ?_) (fun c => ?_)) <;> try (exfalso; omega)
      | simp only [go_sem, I_eq, I_cells, Frm.at f3, Frm.at f2, Frm.at f1, Frm.at f0, g6, k6, g7, g8, kn, List.length_append, List.length_map, List.length_singleton, Nat.reduceAdd, Nat.reduceBEq, Nat.reduceEqDiff, Nat.reduceLeDiff, Nat.reduceLT, Nat.reduceSub]
      | simp (disch := omega) only [wrap_in, toNat_succ, toNat_pred, Int.toNat_natCast]
      | with_reducible refine And.intro (by omega) ?_
      | with_reducible refine exI (by omega) ?_
      | fail
    refine awp_countF [(13, 13), (106, 113)] (by kernel_rfl) 106 105 (by kernel_rfl) (ns.length + 1) (by omega) (fun i t => (∃ zs : List AV, t.hp.con ⟨6, 35, h.cnt 6 35⟩ = .arr 6 zs ∧ zs.length = ns.length + 1) ∧ t.hp.con ⟨6, 6, h.cnt 6 6⟩ = .blk [.bool false] ∧ Keeps h t.hp) ?_ ?_ ?_ ?_ ?_
    · simp only [go_sem, I_eq, I_cells, Nat.reduceAdd, Nat.reduceBEq, Nat.reduceEqDiff, Nat.reduceLeDiff, Nat.reduceLT, Nat.reduceSub]
    · simp only [go_sem, I_eq, I_cells, Nat.reduceAdd, Nat.reduceBEq, Nat.reduceEqDiff, Nat.reduceLeDiff, Nat.reduceLT, Nat.reduceSub]
    · simp only [go_sem, I_eq, I_cells, Nat.reduceAdd, Nat.reduceBEq, Nat.reduceEqDiff, Nat.reduceLeDiff, Nat.reduceLT, Nat.reduceSub]
      exact ⟨⟨_, kn, by simp⟩, k6, gK⟩
    · clear kn k6 gK
      rintro i t hlt d2 hw f4 ga gb ⟨⟨zs, kn, hz⟩, k6, gK⟩
      repeat' first
        | (with_reducible refine CondX.dec (fun c => ?_) (fun c => ?_)) <;> try (exfalso; omega)
        | (with_reducible refine CondX.beq (fun c => ?_) (fun c => ?_)) <;> try (exfalso; omega)
        | (with_reducible refine CondX.bne (fun c => ?_) (fun c => ?_)) <;> try (exfalso; omega)
        | (with_reducible refine CondX.bool (fun c => ?_) (fun c => ?_)) <;> try (exfalso; omega)
        | simp only [go_sem, I_eq, I_cells, Frm.at f4, Frm.at f3, Frm.at f2, Frm.at f1, Frm.at f0, g6, k6, g7, g8, kn, ga, gb, d2, hw, AV.over, Nat.reduceAdd, Nat.reduceBEq, Nat.reduceEqDiff, Nat.reduceLeDiff, Nat.reduceLT, Nat.reduceSub]
        | simp (disch := omega) only [wrap_in, toNat_succ, toNat_pred, Int.toNat_natCast]
        | with_reducible refine And.intro (by omega) ?_
        | with_reducible refine exI (by omega) ?_
        | fail
      all_goals first
        | exact ⟨⟨_, rfl, by rw [List.length_set]; exact hz⟩, gK.set (nv 35) _⟩
        | omega
        | trace_state
    · rintro t d2 f4 ga gb ⟨-, k6, gK⟩
      repeat' first
        | (with_reducible refine CondX.dec (fun c => ?_) (fun c => ?_)) <;> try (exfalso; omega)
        | (with_reducible refine CondX.beq (fun c => ?_) (fun c => ?_)) <;> try (exfalso; omega)
        | (with_reducible refine CondX.bne (fun c => ?_) (fun c => ?_)) <;> try (exfalso; omega)
        | (with_reducible refine CondX.bool (fun c => ?_) (fun c => ?_)) <;> try (exfalso; omega)
        | simp only [go_sem, I_eq, I_cells, Frm.at f4, Frm.at f3, Frm.at f2, Frm.at f1, Frm.at f0, g6, g7, g8, ga, gb, d2, Nat.reduceAdd, Nat.reduceBEq, Nat.reduceEqDiff, Nat.reduceLeDiff, Nat.reduceLT, Nat.reduceSub]
        | simp (disch := omega) only [wrap_in, toNat_succ, toNat_pred, Int.toNat_natCast]
        | with_reducible refine And.intro (by omega) ?_
        | with_reducible refine exI (by omega) ?_
        | fail
      first | exact gK | exact ⟨k6, gK⟩
  clear kn k6 gK
  rintro s4 f4 ⟨k6, gK⟩
  obtain ⟨qs, hqs⟩ : ∃ qs, queueR homes ns obj = qs := ⟨_, rfl⟩
  have hqlen : qs.length ≤ ns.length + 1 := by
    rw [← hqs]; unfold queueR
    split
    · exact queueL_length _ _ _ _
    · simp
  have hf15 := f15_spec homes eh ns ex obj (by omega)
  rw [hqs] at hf15
  have e6 : ∀ s, ((⟨6, 6, h.cnt 6 6⟩ : Lab) = ⟨6, s, s4.hp.cnt 6 s⟩) = False := fun s => lab_ne (by rw [k6]; trivial) _ s
  rw [awp_assoc]
  refine awp_cutF [(14, 15), (114, 117)] (by kernel_rfl) (fun t => t.slots 14 = .pt ⟨6, 14, s4.hp.cnt 6 14⟩ 0 0 0 ∧ t.slots 15 = .pt ⟨6, 15, s4.hp.cnt 6 15⟩ 0 0 0 ∧ t.hp.con ⟨6, 14, s4.hp.cnt 6 14⟩ = .blk [.l false 2 (qs.map pairA)] ∧ t.hp.con ⟨6, 15, s4.hp.cnt 6 15⟩ = .blk [.int .i64 (0 : Nat)] ∧ t.hp.con ⟨6, 6, h.cnt 6 6⟩ = .blk [.bool false] ∧ Keeps h t.hp) ?_ ?_
  · repeat' first
      | (with_reducible refine CondX.dec (fun c => ?_) (fun c => ?_)) <;> try (exfalso; omega)
      | (with_reducible refine CondX.beq (fun c => ?_) (fun c => ?_)) <;> try (exfalso; omega)
      | (with_reducible refine CondX.bne (fun c => ?_) (fun c => ?_)) <;> try (exfalso; omega)
      | (with_reducible refine CondX.bool (fun c => ?_) (fun c => ?_)) <;> try (exfalso; omega)
      | ((with_reducible refine CallX.id ?_); first | refine CallX.pure (hf15) ?_)
      | simp only [go_sem, I_eq, I_cells, Frm.at f4, Frm.at f3, Frm.at f2, Frm.at f1, Frm.at f0, g6, k6, e6, Nat.reduceAdd, Nat.reduceBEq, Nat.reduceEqDiff, Nat.reduceLeDiff, Nat.reduceLT, Nat.reduceSub]
      | simp (disch := omega) only [wrap_in, toNat_succ, toNat_pred, Int.toNat_natCast]
      | with_reducible refine And.intro (by omega) ?_
      | with_reducible refine exI (by omega) ?_
      | fail
    ((repeat first | with_reducible apply Keeps.alloc | (with_reducible refine Keeps.set ?_ ?hL _; case hL => first | assumption | exact Hp.ok _ _ (by simp) | exact Keeps.new (by assumption) _ _)); first | assumption | exact Keeps.refl _)
  clear k6
  have nX : ∀ s, h.con ⟨6, s, s4.hp.cnt 6 s⟩ = .none := fun s => gK.new 6 s
  clear gK
  rintro s5 f5 ⟨g14, g15, k14, k15, k6, gK⟩
  refine awp_cutF [(16, 17), (118, 118), (121, 136)] (by kernel_rfl) (fun t => t.hp.con ⟨6, 14, s4.hp.cnt 6 14⟩ = .blk [.l false 2 (qs.map pairA)] ∧ t.hp.con ⟨6, 15, s4.hp.cnt 6 15⟩ = .blk [.int .i64 (qs.length : Nat)] ∧ t.hp.con ⟨6, 6, h.cnt 6 6⟩ = .blk [.bool false] ∧ Keeps h t.hp) ?_ ?_
  · repeat' first
      | (with_reducible refine CondX.dec (fun c => ?_) (fun c => ?_)) <;> try (exfalso; omega)
      | (with_reducible refine CondX.beq (fun c => ?_) (fun c => ?_)) <;> try (exfalso; omega)
      | (with_reducible refine CondX.bne (fun c => ?_) (fun c => ?_)) <;> try (exfalso; omega)
      | (with_reducible refine CondX.bool (fun c => ?_) (fun c => ?_)) <;> try (exfalso; omega)
      | simp only [go_sem, I_eq, I_cells, Frm.at f5, Frm.at f4, Frm.at f3, Frm.at f2, Frm.at f1, Frm.at f0, g6, g9, g14, g15, k6, k14, k15, QV_eq, capsQ, Nat.reduceAdd, Nat.reduceBEq, Nat.reduceEqDiff, Nat.reduceLeDiff, Nat.reduceLT, Nat.reduceSub]
      | simp (disch := omega) only [wrap_in, toNat_succ, toNat_pred, Int.toNat_natCast]
      | with_reducible refine And.intro (by omega) ?_
      | with_reducible refine exI (by omega) ?_
      | fail
    have it := Queue_iter (if 0 ≤ obj ∧ obj < homes.length then homes.getD obj.toNat 0 else 0) (decide (0 ≤ obj ∧ obj < homes.length)) ns obj (by omega)
    rw [qsOf_eq, hqs] at it
    refine iter_rule (fid := 6) (ps := [119, 120]) (T := fun _ => []) mixed it (by decide) rfl (of_decide_eq_true (by kernel_rfl)) (by kernel_rfl) (by kernel_rfl) (fun x hx => by obtain ⟨y, _, rfl⟩ := List.mem_map.1 hx; rfl)
      (fun j q => q.con ⟨6, 14, s4.hp.cnt 6 14⟩ = .blk [.l false 2 (qs.map pairA)] ∧ q.con ⟨6, 15, s4.hp.cnt 6 15⟩ = .blk [.int .i64 (j : Nat)] ∧ q.con ⟨6, 6, h.cnt 6 6⟩ = .blk [.bool false] ∧ Keeps h q) (fun _ _ => False) ?_ (fun _ _ _ hf => hf.elim) ?_ ?_ ?_ (fun _ _ _ hf => hf.elim) _
    · rintro j q q' ⟨k14, k15, k6, gk⟩ hs
      exact ⟨by rw [hs _ (.inr ⟨by simp, nlp (show 14 < 1000000 by decide)⟩), k14], by rw [hs _ (.inr ⟨by simp, nlp (show 15 < 1000000 by decide)⟩), k15], by rw [hs _ (.inr ⟨by simp, nlp (show 6 < 1000000 by decide)⟩), k6], hs.keeps gK gk⟩
    · exact ⟨k14, k15, k6, gK⟩
    · rintro j hj q ⟨k14, k15, k6, gk⟩
      rw [List.length_map] at hj
      rw [List.getElem_map]
      have d1 : decide ((j : Int) ≥ qs.length) = false := by simp; omega
      have hw : IntKind.i64.wrap ((j : Int) + 1) = ((j + 1 : Nat) : Int) := wrapS (by omega)
      repeat' first
        | (with_reducible refine CondX.dec (fun c => ?_) (fun c => ?_)) <;> try (exfalso; omega)
        | (with_reducible refine CondX.beq (fun c => ?_) (fun c => ?_)) <;> try (exfalso; omega)
        | (with_reducible refine CondX.bne (fun c => ?_) (fun c => ?_)) <;> try (exfalso; omega)
        | (with_reducible refine CondX.bool (fun c => ?_) (fun c => ?_)) <;> try (exfalso; omega)
        | simp only [go_sem, I_eq, I_cells, Frm.at f5, Frm.at f4, Frm.at f3, Frm.at f2, Frm.at f1, Frm.at f0, g6, g9, g14, g15, k6, k14, k15, d1, hw, pairA_cells, List.length_map, beq_self_eq_true, Bool.and_true, Bool.not_true, Nat.reduceAdd, Nat.reduceBEq, Nat.reduceEqDiff, Nat.reduceLeDiff, Nat.reduceLT, Nat.reduceSub]
        | simp (disch := omega) only [wrap_in, toNat_succ, toNat_pred, Int.toNat_natCast]
        | with_reducible refine And.intro (by omega) ?_
        | with_reducible refine exI (by omega) ?_
        | fail
      exact ⟨(KeepsF.refl [41] q).set (by simp) _, gk.set (nX 15) _⟩
    · rintro q ⟨k14, k15, k6, gk⟩
      rw [List.length_map] at k15
      repeat' first
        | (with_reducible refine CondX.dec (fun c => ?_) (fun c => ?_)) <;> try (exfalso; omega)
        | (with_reducible refine CondX.beq (fun c => ?_) (fun c => ?_)) <;> try (exfalso; omega)
        | (with_reducible refine CondX.bne (fun c => ?_) (fun c => ?_)) <;> try (exfalso; omega)
        | (with_reducible refine CondX.bool (fun c => ?_) (fun c => ?_)) <;> try (exfalso; omega)
        | simp only [go_sem, I_eq, I_cells, k14, k15, k6, Nat.reduceAdd, Nat.reduceBEq, Nat.reduceEqDiff, Nat.reduceLeDiff, Nat.reduceLT, Nat.reduceSub]
        | simp (disch := omega) only [wrap_in, toNat_succ, toNat_pred, Int.toNat_natCast]
        | with_reducible refine And.intro (by omega) ?_
        | with_reducible refine exI (by omega) ?_
        | fail
      exact gk
  clear k14 k15 k6 gK
  rintro s6 f6 ⟨k14, k15, k6, gK⟩
  repeat' first
    | (with_reducible refine CondX.dec (fun c => ?_) (fun c => ?_)) <;> try (exfalso; omega)
    | (with_reducible refine CondX.beq (fun c => ?_) (fun c => ?_)) <;> try (exfalso; omega)
    | (with_reducible refine CondX.bne (fun c => ?_) (fun c => ?_)) <;> try (exfalso; omega)
    | (with_reducible refine CondX.bool (fun c => ?_) (fun c => ?_)) <;> try (exfalso; omega)
    | ((with_reducible refine CallX.id ?_); first | refine CallX.pure (f13_spec homes eh ns ex (by omega)) ?_)
    | simp only [go_sem, I_eq, I_cells, Frm.at f6, Frm.at f5, Frm.at f4, Frm.at f3, Frm.at f2, Frm.at f1, Frm.at f0, g6, g9, g10, g11, g14, g15, k6, k14, k15, pairV, List.length_map, beq_self_eq_true, Nat.reduceAdd, Nat.reduceBEq, Nat.reduceEqDiff, Nat.reduceLeDiff, Nat.reduceLT, Nat.reduceSub]
    | simp (disch := omega) only [wrap_in, toNat_succ, toNat_pred, Int.toNat_natCast]
    | with_reducible refine And.intro (by omega) ?_
    | with_reducible refine exI (by omega) ?_
    | fail
  exact gK.set (nv 6) _
theorem GhostKeeps_spec (homes : List Int) (eh : Bool) (ns : List Note) (ex : Bool) (obj : Int) (hl : ns.length ≤ 140737488355328) (hb : homes.length * 8 ≤ 140737488351232) :
    PureF Try.prog 6 [.l eh 1 (homes.map I), .l ex 6 (ns.map encN), .int .i64 obj] (.bool true) := by
  by_cases h5 : ns.length ≤ 512
  · exact GhostKeeps_good homes eh ns ex obj h5 hb
  · refine PureF.of_awp mixed (fun _ => []) (fn := Try.f6) (by kernel_rfl) rfl (by kernel_rfl) (by show 3 ≤ _; decide) (by simp [AV.lf]) (fun h => ?_)
    have d512 : decide ((ns.length : Int) > 512) = true := by simp; omega
    repeat' first
      | (with_reducible refine CondX.dec (fun c => ?_) (fun c => ?_)) <;> try (exfalso; omega)
      | (with_reducible refine CondX.beq (fun c => ?_) (fun c => ?_)) <;> try (exfalso; omega)
      | (with_reducible refine CondX.bne (fun c => ?_) (fun c => ?_)) <;> try (exfalso; omega)
      | (with_reducible refine CondX.bool (fun c => ?_) (fun c => ?_)) <;> try (exfalso; omega)
      | ((with_reducible refine CallX.id ?_); first | refine CallX.pure (f12_spec) ?_)
      | simp only [go_sem, I_eq, I_cells, d512, Nat.reduceAdd, Nat.reduceBEq, Nat.reduceEqDiff, Nat.reduceLeDiff, Nat.reduceLT, Nat.reduceSub]
      | simp (disch := omega) only [wrap_in, toNat_succ, toNat_pred, Int.toNat_natCast]
      | with_reducible refine And.intro (by omega) ?_
      | with_reducible refine exI (by omega) ?_
      | fail
    all_goals first | ((repeat first | with_reducible apply Keeps.alloc | (with_reducible refine Keeps.set ?_ ?hL _; case hL => first | assumption | exact Hp.ok _ _ (by simp) | exact Keeps.new (by assumption) _ _)); first | assumption | exact Keeps.refl _) | (exfalso; simp at *; done) | trace_state
end Go.Proofs.Ytmajndgdfmnchaa
