/- Part of a proof: what functions of the given program compute, and plain laws of it. -/
import Derived.Test.YtmajndgdfmnchaaZ16
import Derived.Test.YtmajndgdfmnchaaT6
/- look.Law, where the states fit. -/
namespace Go.Gh
open Go.Proofs.Ytmajndgdfmnchaa
theorem leftL_len {ps : List Int} {ss : List Nst} (hok : TreeOk ps) (hf : fitB ps ss = true) (u v : Int) : (leftL ps ss u v).length ≤ 1024 := by
  unfold leftL
  rw [hf]
  by_cases hv : v ∈ nbr ps u
  · have hm := (mem_nbr hok u v).1 hv
    obtain ⟨hln, hat⟩ := fit_at hf
    have hu := hm.1
    simp only [hasN, decide_eq_true_eq] at hu
    have la : u.toNat < ss.length := by omega
    obtain ⟨i, hi, -, o1, g1, -⟩ := side_at (v := v) (hat _ la).2.1 (by rw [(hat _ la).1, show ((u.toNat : Nat) : Int) = u by omega]; exact hv)
    rw [at0_at la, o1]
    simp only [hv, decide_true, Bool.and_true, if_true, List.length_map]
    exact Nat.le_trans (leftI_len _ _ _ _) (goodE_len g1)
  · simp [hv]
theorem sumE_le {f : Int → Int → Nat} {b : Nat} (h : ∀ u v, f u v ≤ b) : ∀ l, sumE f l ≤ l.length * (2 * b) := by
  intro l
  induction l with
  | nil => simp [sumE]
  | cons p r ih => have h1 := h p.1 p.2; have h2 := h p.2 p.1; simp only [sumE, List.length_cons, Nat.add_mul]; omega
theorem fit_cells {ps : List Int} {ss : List Nst} (hf : fitB ps ss = true) (obj : Int) : ∀ s ∈ ss, (ownO obj s).cells.length ≤ 1099511627777 := by
  intro s hs
  obtain ⟨i, hi, rfl⟩ := List.getElem_of_mem hs
  have h2 := Fine.of ((fit_at hf).2 i hi).2.1
  unfold ownO
  by_cases ho : obj.toNat < ss[i].objs.length
  · rw [List.getD_eq_getElem?_getD, List.getElem?_eq_getElem ho]
    exact h2.cells _ (List.getElem_mem ho)
  · rw [List.getD_eq_getElem?_getD, List.getElem?_eq_none (by omega)]; simp
theorem placeS_le (obj : Int) {b : Nat} : ∀ {l : List Nst}, (∀ s ∈ l, (ownO obj s).cells.length ≤ b) → placeS obj l ≤ l.length * b := by
  intro l
  induction l with
  | nil => intro _; simp [placeS]
  | cons s r ih =>
    intro h
    have h1 := ih fun x hx => h x (List.mem_cons_of_mem _ hx)
    have h2 := h s List.mem_cons_self
    have h3 : placeC (ownO obj s).cells ≤ (ownO obj s).cells.length := List.countP_le_length
    simp only [placeS, List.length_cons, Nat.add_mul]; omega
theorem toldS_le (obj : Int) (q : Int × Int) {b : Nat} : ∀ {l : List Nst}, (∀ s ∈ l, (ownO obj s).cells.length ≤ b) → toldS obj q l ≤ l.length * b := by
  intro l
  induction l with
  | nil => intro _; simp [toldS]
  | cons s r ih =>
    intro h
    have h1 := ih fun x hx => h x (List.mem_cons_of_mem _ hx)
    have h2 := h s List.mem_cons_self
    have h3 : toldC q (ownO obj s).cells ≤ (ownO obj s).cells.length := List.countP_le_length
    simp only [toldS, List.length_cons, Nat.add_mul]; omega
theorem sinkS_le (obj : Int) : ∀ (l : List Nst) (i : Nat), sinkS obj i l ≤ l.length := by
  intro l
  induction l with
  | nil => intro i; simp [sinkS]
  | cons s r ih => intro i; have := ih (i + 1); simp only [sinkS, List.length_cons]; split <;> omega
theorem placeC_cons (c : Cel) (r : List Cel) : placeC (c :: r) = (if c.state = 1 then 0 else 1) + placeC r := by
  unfold placeC; rw [List.countP_cons]; by_cases h : c.state = 1 <;> simp [h]; omega
theorem toldC_cons (q : Int × Int) (c : Cel) (r : List Cel) : toldC q (c :: r) = (if 0 ≤ c.node ∧ (c.node, c.next) = q then 1 else 0) + toldC q r := by
  unfold toldC
  rw [List.countP_cons, Nat.add_comm]
  congr 1
  obtain ⟨a, b⟩ := q
  simp [Prod.ext_iff]
theorem cntM_cons (k obj : Int) (m : Msg) (r : List Msg) : cntM k obj (m :: r) = (if m.kind = k ∧ m.obj = obj then 1 else 0) + cntM k obj r := by
  unfold cntM; rw [List.countP_cons, Nat.add_comm]; simp
theorem toldM_cons (obj : Int) (q : Int × Int) (m : Msg) (r : List Msg) : toldM obj q (m :: r) = (if m.obj = obj ∧ (m.kind = 1 ∨ m.kind = 2) ∧ (m.node, m.num) = q then 1 else 0) + toldM obj q r := by
  unfold toldM
  rw [List.countP_cons, Nat.add_comm]
  congr 1
  obtain ⟨a, b⟩ := q
  simp [Prod.ext_iff, and_assoc]
theorem heirC_cons (T : Int × Int → Nat) (i : Nat) (c : Cel) (r : List Cel) : heirC T i (c :: r) = ((!(c.state == 1) || T ((i : Int), c.num) == 1) && heirC T i r) := by
  unfold heirC; rw [List.all_cons]
theorem bump {es : List ((Int × Int) × Int)} {tq : Int × Int → Nat} (h : ∀ q, Go.T.cntI es q = tq q) (k : Int × Int) : ∀ q, Go.T.cntI (Go.T.setI es k ((tq k : Int) + 1)) q = ((tq q + if k = q then 1 else 0 : Nat) : Int) := by
  intro q
  rw [Go.T.cntI_setI]
  by_cases hq : k = q
  · subst hq; simp
  · rw [if_neg hq, if_neg hq, h]; simp
end Go.Gh
namespace Go.Proofs.Ytmajndgdfmnchaa
open Go Go.T Go.Gh Go.Proofs
set_option linter.unusedSimpArgs false
set_option linter.unusedVariables false
set_option maxRecDepth 10000
set_option maxHeartbeats 4000000

theorem Law_fit (ps : List Int) (ss : List Nst) (ex : Bool) (obj : Int) (hok : TreeOk ps) (hs : ∀ s ∈ ss, Sized s) (hf : fitB ps ss = true) (ho : 0 ≤ obj ∧ obj < objN ss) : PureF Try.prog 28 [treeV ps, .l ex 6 (ss.map encS), .int .i64 obj] (.int .i64 (lawL ps ss obj)) := by
  have hps := hok.len
  obtain ⟨hln, hat⟩ := fit_at hf
  have hss : 0 < ss.length := by omega
  have h0 := objN_eq hss
  have hfc := fit_cells hf obj
  have hel := edgesL_len hok
  have hb := leftL_len hok hf
  -- the totals
  obtain ⟨P0, hP0⟩ : ∃ x, placeS obj ss = x := ⟨_, rfl⟩
  obtain ⟨P, hP⟩ : ∃ x, placeS obj ss + countL ps ss 2 obj (edgesL ps) = x := ⟨_, rfl⟩
  obtain ⟨F, hF⟩ : ∃ x, countL ps ss 1 obj (edgesL ps) = x := ⟨_, rfl⟩
  obtain ⟨S, hS⟩ : ∃ x, sinkS obj 0 ss = x := ⟨_, rfl⟩
  obtain ⟨E, hE⟩ : ∃ x, (edgesL ps).all (overB ps ss obj) = x := ⟨_, rfl⟩
  obtain ⟨T, hT⟩ : ∃ x : Int × Int → Nat, (fun q => toldS obj q ss + toldE ps ss obj q (edgesL ps)) = x := ⟨_, rfl⟩
  obtain ⟨H, hH⟩ : ∃ x, heirB T obj 0 ss = x := ⟨_, rfl⟩
  have hTq : ∀ q, toldS obj q ss + toldE ps ss obj q (edgesL ps) = T q := fun q => by rw [← hT]
  have hlaw : lawL ps ss obj = lawOf P E S F H := by
    unfold lawL
    rw [hf, hP, hF, hS, hE, hT, hH]
    simp [ho.1, ho.2]
  have c1 : ∀ k, countL ps ss k obj (edgesL ps) ≤ 1024 * (2 * 1024) := fun k => by
    rw [countL_sumE]
    refine Nat.le_trans (sumE_le (b := 1024) (fun u v => Nat.le_trans List.countP_le_length (hb u v)) _) (Nat.mul_le_mul_right _ hel)
  have c2 : ∀ q, toldE ps ss obj q (edgesL ps) ≤ 1024 * (2 * 1024) := fun q => by
    rw [toldE_sumE]
    refine Nat.le_trans (sumE_le (b := 1024) (fun u v => Nat.le_trans List.countP_le_length (hb u v)) _) (Nat.mul_le_mul_right _ hel)
  have c3 : placeS obj ss ≤ 32 * 1099511627777 := Nat.le_trans (placeS_le obj hfc) (Nat.mul_le_mul_right _ (by omega))
  have c4 : ∀ q, toldS obj q ss ≤ 32 * 1099511627777 := fun q => Nat.le_trans (toldS_le obj q hfc) (Nat.mul_le_mul_right _ (by omega))
  have bP : P ≤ 2 ^ 46 := by have := c1 2; omega
  have bF : F ≤ 2 ^ 46 := by have := c1 1; omega
  have bS : S ≤ 32 := by have := sinkS_le obj ss 0; omega
  have bT : ∀ q, T q ≤ 2 ^ 46 := fun q => by have := c2 q; have := c4 q; have := hTq q; omega
  have hown : ∀ i (hi : i < ss.length), ∃ hj : obj.toNat < ss[i].objs.length, ss[i].objs[obj.toNat] = ownO obj ss[i] := fun i hi => by
    have h1 := (hat i hi).2.2
    refine ⟨by omega, ?_⟩
    unfold ownO
    rw [List.getD_eq_getElem?_getD, List.getElem?_eq_getElem (by omega)]
    rfl
  rw [hlaw]
  refine PureF.of_awp mixed T28 (fn := Try.f28) (by kernel_rfl) rfl (by kernel_rfl) (by show 3 ≤ _; decide) (by simp [AV.lf]) (fun h => ?_)
  rw [awp_assoc, awp_assoc, awp_assoc, awp_assoc]
  refine awp_cut (fun s => (s.slots 3 = .pt ⟨28, 3, h.cnt 28 3⟩ 0 0 0 ∧ s.slots 4 = .pt ⟨28, 4, h.cnt 28 4⟩ 0 0 0 ∧ s.slots 5 = .pt ⟨28, 5, h.cnt 28 5⟩ 0 0 0 ∧ s.slots 7 = .pt ⟨28, 7, h.cnt 28 7⟩ 0 0 0 ∧ s.slots 9 = .pt ⟨28, 9, h.cnt 28 9⟩ 0 0 0 ∧ s.slots 10 = .pt ⟨28, 10, h.cnt 28 10⟩ 0 0 0 ∧ s.slots 11 = .pt ⟨28, 11, h.cnt 28 11⟩ 0 0 0) ∧ (s.hp.con ⟨28, 3, h.cnt 28 3⟩ = .blk [treeV ps] ∧ s.hp.con ⟨28, 4, h.cnt 28 4⟩ = .blk [.l ex 6 (ss.map encS)] ∧ s.hp.con ⟨28, 5, h.cnt 28 5⟩ = .blk [.int .i64 obj] ∧ s.hp.con ⟨28, 10, h.cnt 28 10⟩ = .blk [.mr ⟨28, 43, h.cnt 28 43⟩]) ∧ (s.hp.con ⟨28, 7, h.cnt 28 7⟩ = .blk [.int .i64 ((0 : Nat) : Int)] ∧ s.hp.con ⟨28, 9, h.cnt 28 9⟩ = .blk [.int .i64 ((0 : Nat) : Int)] ∧ s.hp.con ⟨28, 11, h.cnt 28 11⟩ = .blk [.bool true] ∧ s.hp.con ⟨28, 43, h.cnt 28 43⟩ = .mp (mapI ([] : List ((Int × Int) × Int)) 0) ([] : List ((Int × Int) × Int)).length) ∧ s.slots 8 = .int .i64 0 ∧ Keeps h s.hp) ?_ ?_
  · repeat' first
      | (with_reducible refine CondX.dec (fun c => ?_) (fun c => ?_)) <;> try (exfalso; omega)
      | (with_reducible refine CondX.beq (fun c => ?_) (fun c => ?_)) <;> try (exfalso; omega)
      | (with_reducible refine CondX.bne (fun c => ?_) (fun c => ?_)) <;> try (exfalso; omega)
      | (with_reducible refine CondX.bool (fun c => ?_) (fun c => ?_)) <;> try (exfalso; omega)
      | ((with_reducible refine CallX.id ?_); first | refine CallX.pure (Fit_spec ps ss ex (by omega) hs) ?_)
      | ((with_reducible refine PureX.id ?_); first | refine PureX.of (Fit_spec ps ss ex (by omega) hs) ?_)
      | simp only [go_sem, I_eq, I_cells, T28, hf, encS_cells, mapI, Nat.reduceAdd, Nat.reduceBEq, Nat.reduceEqDiff, Nat.reduceLeDiff, Nat.reduceLT, Nat.reduceSub]
      | simp (disch := omega) only [wrap_in, toNat_succ, toNat_pred, Int.toNat_natCast]
      | with_reducible refine And.intro (by omega) ?_
      | with_reducible refine exI (by omega) ?_
      | fail
    all_goals first | ((repeat first | with_reducible apply Keeps.alloc | (with_reducible refine Keeps.set ?_ ?hL _; case hL => first | assumption | exact Hp.ok _ _ (by simp) | exact Keeps.new (by assumption) _ _)); first | assumption | exact Keeps.refl _) | (exfalso; omega) | skip
  rintro s0 ⟨⟨p3, p4, p5, p7, p9, p10, p11⟩, ⟨k3, k4, k5, k10⟩, ⟨k7, k9, k11, k43⟩, g8, gK⟩
  refine awp_cutF [(8, 8), (12, 14), (16, 16), (44, 88)] (by kernel_rfl) (fun s => (s.hp.con ⟨28, 3, h.cnt 28 3⟩ = .blk [treeV ps] ∧ s.hp.con ⟨28, 4, h.cnt 28 4⟩ = .blk [.l ex 6 (ss.map encS)] ∧ s.hp.con ⟨28, 5, h.cnt 28 5⟩ = .blk [.int .i64 obj] ∧ s.hp.con ⟨28, 10, h.cnt 28 10⟩ = .blk [.mr ⟨28, 43, h.cnt 28 43⟩]) ∧ (∃ es : List ((Int × Int) × Int), (s.hp.con ⟨28, 7, h.cnt 28 7⟩ = .blk [.int .i64 ((P0 : Nat) : Int)] ∧ s.hp.con ⟨28, 9, h.cnt 28 9⟩ = .blk [.int .i64 ((0 : Nat) : Int)] ∧ s.hp.con ⟨28, 11, h.cnt 28 11⟩ = .blk [.bool true] ∧ s.hp.con ⟨28, 43, h.cnt 28 43⟩ = .mp (mapI es 0) es.length) ∧ ∀ q, cntI es q = toldS obj q ss) ∧ s.slots 8 = .int .i64 S ∧ Keeps h s.hp) ?_ ?_
  · repeat' first
      | (with_reducible refine CondX.dec (fun c => ?_) (fun c => ?_)) <;> try (exfalso; omega)
      | (with_reducible refine CondX.beq (fun c => ?_) (fun c => ?_)) <;> try (exfalso; omega)
      | (with_reducible refine CondX.bne (fun c => ?_) (fun c => ?_)) <;> try (exfalso; omega)
      | (with_reducible refine CondX.bool (fun c => ?_) (fun c => ?_)) <;> try (exfalso; omega)
      | simp only [go_sem, I_eq, I_cells, T28, p3, p4, p5, p7, p9, p10, p11, k3, k4, k5, k10, k7, k9, k11, k43, g8, Nat.reduceAdd, Nat.reduceBEq, Nat.reduceEqDiff, Nat.reduceLeDiff, Nat.reduceLT, Nat.reduceSub]
      | simp (disch := omega) only [wrap_in, toNat_succ, toNat_pred, Int.toNat_natCast]
      | with_reducible refine And.intro (by omega) ?_
      | with_reducible refine exI (by omega) ?_
      | fail
    refine awp_countF [(8, 8), (12, 14), (16, 16), (46, 88)] (by kernel_rfl) 46 45 (by kernel_rfl) ss.length (by omega) (fun i t => (t.hp.con ⟨28, 3, h.cnt 28 3⟩ = .blk [treeV ps] ∧ t.hp.con ⟨28, 4, h.cnt 28 4⟩ = .blk [.l ex 6 (ss.map encS)] ∧ t.hp.con ⟨28, 5, h.cnt 28 5⟩ = .blk [.int .i64 obj] ∧ t.hp.con ⟨28, 10, h.cnt 28 10⟩ = .blk [.mr ⟨28, 43, h.cnt 28 43⟩]) ∧ Keeps h t.hp ∧ ∃ (np sk : Nat) (es : List ((Int × Int) × Int)) (tq : Int × Int → Nat), (t.hp.con ⟨28, 7, h.cnt 28 7⟩ = .blk [.int .i64 ((np : Nat) : Int)] ∧ t.hp.con ⟨28, 9, h.cnt 28 9⟩ = .blk [.int .i64 ((0 : Nat) : Int)] ∧ t.hp.con ⟨28, 11, h.cnt 28 11⟩ = .blk [.bool true] ∧ t.hp.con ⟨28, 43, h.cnt 28 43⟩ = .mp (mapI es 0) es.length) ∧ t.slots 8 = .int .i64 sk ∧ np + placeS obj (ss.drop i) = P0 ∧ sk + sinkS obj i (ss.drop i) = S ∧ (∀ q, cntI es q = ((tq q : Nat) : Int)) ∧ ∀ q, tq q + toldS obj q (ss.drop i) = toldS obj q ss) ?_ ?_ ?_ ?_ ?_
    · simp only [go_sem, I_eq, I_cells, Nat.reduceAdd, Nat.reduceBEq, Nat.reduceEqDiff, Nat.reduceLeDiff, Nat.reduceLT, Nat.reduceSub]
    · simp only [go_sem, I_eq, I_cells, Nat.reduceAdd, Nat.reduceBEq, Nat.reduceEqDiff, Nat.reduceLeDiff, Nat.reduceLT, Nat.reduceSub]
    · simp only [go_sem, I_eq, I_cells, p3, p4, p5, p7, p9, p10, p11, k3, k4, k5, k10, k7, k9, k11, k43, g8, Nat.reduceAdd, Nat.reduceBEq, Nat.reduceEqDiff, Nat.reduceLeDiff, Nat.reduceLT, Nat.reduceSub]
      refine ⟨gK, 0, 0, [], fun _ => 0, ?_⟩
      (repeat' first | exact rfl | assumption | refine And.intro ?_ ?_ | omega | (intro q; first | exact rfl | assumption | omega | (simp; done)))
    · clear k3 k4 k5 k10 k7 k9 k11 k43 g8 gK
      rintro i t hlt d2 hw f1 g46 g45 ⟨⟨k3, k4, k5, k10⟩, gK, np, sk, es, tq, ⟨k7, k9, k11, k43⟩, g8, eP, eS, hes, eT⟩
      obtain ⟨hj, hjo⟩ := hown i hlt
      rw [drop_cons hlt] at eP eS
      simp only [drop_cons hlt] at eT
      rw [placeS] at eP
      rw [sinkS] at eS
      simp only [toldS] at eT
      have hcl := hfc _ (List.getElem_mem hlt)
      obtain ⟨o, hoo⟩ : ∃ o, ownO obj ss[i] = o := ⟨_, rfl⟩
      rw [hoo] at hjo eP eS hcl
      simp only [hoo] at eT
      obtain ⟨rP, hrP⟩ : ∃ x, placeS obj (ss.drop (i + 1)) = x := ⟨_, rfl⟩
      obtain ⟨rS, hrS⟩ : ∃ x, sinkS obj (i + 1) (ss.drop (i + 1)) = x := ⟨_, rfl⟩
      obtain ⟨rT, hrT⟩ : ∃ x : Int × Int → Nat, (fun q => toldS obj q (ss.drop (i + 1))) = x := ⟨_, rfl⟩
      have hrTq : ∀ q, toldS obj q (ss.drop (i + 1)) = rT q := fun q => by rw [← hrT]
      rw [hrP] at eP
      rw [hrS] at eS
      simp only [hrTq] at eT
      obtain ⟨sk1, hsk1⟩ : ∃ x, sk + (if o.arrow = (i : Int) then 1 else 0) = x := ⟨_, rfl⟩
      rw [← Nat.add_assoc, hsk1] at eS
      repeat' first
        | (with_reducible refine CondX.dec (fun c => ?_) (fun c => ?_)) <;> try (exfalso; omega)
        | (with_reducible refine CondX.beq (fun c => ?_) (fun c => ?_)) <;> try (exfalso; omega)
        | (with_reducible refine CondX.bne (fun c => ?_) (fun c => ?_)) <;> try (exfalso; omega)
        | (with_reducible refine CondX.bool (fun c => ?_) (fun c => ?_)) <;> try (exfalso; omega)
        | simp only [go_sem, I_eq, I_cells, T28, Frm.at f1, p3, p4, p5, p7, p9, p10, p11, k3, k4, k5, k10, k7, k9, k11, k43, g45, g46, g8, d2, hw, encS_cells, encO_cells, hjo, encO, Nat.reduceAdd, Nat.reduceBEq, Nat.reduceEqDiff, Nat.reduceLeDiff, Nat.reduceLT, Nat.reduceSub]
        | simp (disch := omega) only [wrap_in, toNat_succ, toNat_pred, Int.toNat_natCast]
        | with_reducible refine And.intro (by omega) ?_
        | with_reducible refine exI (by omega) ?_
        | fail
      all_goals (
        refine awp_countF [(16, 16), (65, 87)] (by kernel_rfl) 65 64 (by kernel_rfl) o.cells.length (by omega) (fun j t => (t.hp.con ⟨28, 3, h.cnt 28 3⟩ = .blk [treeV ps] ∧ t.hp.con ⟨28, 4, h.cnt 28 4⟩ = .blk [.l ex 6 (ss.map encS)] ∧ t.hp.con ⟨28, 5, h.cnt 28 5⟩ = .blk [.int .i64 obj] ∧ t.hp.con ⟨28, 10, h.cnt 28 10⟩ = .blk [.mr ⟨28, 43, h.cnt 28 43⟩]) ∧ Keeps h t.hp ∧ ∃ (np : Nat) (es : List ((Int × Int) × Int)) (tq : Int × Int → Nat), (t.hp.con ⟨28, 7, h.cnt 28 7⟩ = .blk [.int .i64 ((np : Nat) : Int)] ∧ t.hp.con ⟨28, 9, h.cnt 28 9⟩ = .blk [.int .i64 ((0 : Nat) : Int)] ∧ t.hp.con ⟨28, 11, h.cnt 28 11⟩ = .blk [.bool true] ∧ t.hp.con ⟨28, 43, h.cnt 28 43⟩ = .mp (mapI es 0) es.length) ∧ np + (placeC (o.cells.drop j) + rP) = P0 ∧ (∀ q, cntI es q = ((tq q : Nat) : Int)) ∧ ∀ q, tq q + (toldC q (o.cells.drop j) + rT q) = toldS obj q ss) ?_ ?_ ?_ ?_ ?_
        · simp only [go_sem, I_eq, I_cells, Nat.reduceAdd, Nat.reduceBEq, Nat.reduceEqDiff, Nat.reduceLeDiff, Nat.reduceLT, Nat.reduceSub]
        · simp only [go_sem, I_eq, I_cells, Nat.reduceAdd, Nat.reduceBEq, Nat.reduceEqDiff, Nat.reduceLeDiff, Nat.reduceLT, Nat.reduceSub]
        · simp only [go_sem, I_eq, I_cells, k3, k4, k5, k10, k7, k9, k11, k43, Nat.reduceAdd, Nat.reduceBEq, Nat.reduceEqDiff, Nat.reduceLeDiff, Nat.reduceLT, Nat.reduceSub]
          refine ⟨by ((repeat first | with_reducible apply Keeps.alloc | (with_reducible refine Keeps.set ?_ ?hL _; case hL => first | assumption | exact Hp.ok _ _ (by simp) | exact Keeps.new (by assumption) _ _)); first | assumption | exact Keeps.refl _), np, es, tq, ?_⟩
          (repeat' first | exact rfl | assumption | refine And.intro ?_ ?_ | omega | (intro q; first | exact rfl | assumption | omega | (simp; done)))
        · clear k3 k4 k5 k10 k7 k9 k11 k43 g8 gK eP hes eT
          rintro j t2 hlj d3 hw2 f2 g65 g64 ⟨⟨k3, k4, k5, k10⟩, gK, np, es, tq, ⟨k7, k9, k11, k43⟩, eP, hes, eT⟩
          rw [drop_cons hlj, placeC_cons] at eP
          simp only [drop_cons hlj, toldC_cons] at eT
          have hcn := eT (o.cells[j].node, o.cells[j].next)
          have hc4 := c4 (o.cells[j].node, o.cells[j].next)
          repeat' first
            | (with_reducible refine CondX.dec (fun c => ?_) (fun c => ?_)) <;> try (exfalso; omega)
            | (with_reducible refine CondX.beq (fun c => ?_) (fun c => ?_)) <;> try (exfalso; omega)
            | (with_reducible refine CondX.bne (fun c => ?_) (fun c => ?_)) <;> try (exfalso; omega)
            | (with_reducible refine CondX.bool (fun c => ?_) (fun c => ?_)) <;> try (exfalso; omega)
            | with_reducible refine LookX.cn ?_
            | (with_reducible refine EntryX.cn rfl (by simp only [go_sem, I_eq, I_cells, k43, Nat.reduceAdd, Nat.reduceBEq, Nat.reduceEqDiff, Nat.reduceLeDiff, Nat.reduceLT, Nat.reduceSub]) (fun es1 n1 v1 c1 hsl => ?_))
            | with_reducible refine StoreX.cn hsl ?_
            | simp only [go_sem, I_eq, I_cells, T28, Frm.at f2, Frm.at f1, p3, p4, p5, p7, p9, p10, p11, k3, k4, k5, k10, k7, k9, k11, k43, g64, g65, d3, hw2, encC_cells, encC, hes, Nat.reduceAdd, Nat.reduceBEq, Nat.reduceEqDiff, Nat.reduceLeDiff, Nat.reduceLT, Nat.reduceSub]
            | simp (disch := omega) only [wrap_in, toNat_succ, toNat_pred, Int.toNat_natCast]
            | with_reducible refine And.intro (by omega) ?_
            | with_reducible refine exI (by omega) ?_
            | fail
          · rename_i c0
            rw [if_neg c0] at eP
            refine ⟨by ((repeat first | with_reducible apply Keeps.alloc | (with_reducible refine Keeps.set ?_ ?hL _; case hL => first | assumption | exact Hp.ok _ _ (by simp) | exact Keeps.new (by assumption) _ _)); first | assumption | exact Keeps.refl _), np + 1, setI es (o.cells[j].node, o.cells[j].next) (((tq (o.cells[j].node, o.cells[j].next) : Nat) : Int) + 1), fun q => tq q + if (o.cells[j].node, o.cells[j].next) = q then 1 else 0, ⟨by simp, rfl⟩, by omega, bump hes _, fun q => ?_⟩
            (dsimp only; have e := eT q; by_cases hq : (o.cells[j].node, o.cells[j].next) = q; (rw [if_pos ⟨c, hq⟩] at e; rw [if_pos hq]; omega); (rw [if_neg (fun x => hq x.2)] at e; rw [if_neg hq]; omega))
          · rename_i c0
            rw [if_neg c0] at eP
            refine ⟨by ((repeat first | with_reducible apply Keeps.alloc | (with_reducible refine Keeps.set ?_ ?hL _; case hL => first | assumption | exact Hp.ok _ _ (by simp) | exact Keeps.new (by assumption) _ _)); first | assumption | exact Keeps.refl _), np + 1, es, tq, ⟨by simp, rfl⟩, by omega, hes, fun q => ?_⟩
            (have e := eT q; rw [if_neg (fun x => c x.1)] at e; omega)
          · rename_i c0
            rw [if_pos c0] at eP
            refine ⟨by ((repeat first | with_reducible apply Keeps.alloc | (with_reducible refine Keeps.set ?_ ?hL _; case hL => first | assumption | exact Hp.ok _ _ (by simp) | exact Keeps.new (by assumption) _ _)); first | assumption | exact Keeps.refl _), np, setI es (o.cells[j].node, o.cells[j].next) (((tq (o.cells[j].node, o.cells[j].next) : Nat) : Int) + 1), fun q => tq q + if (o.cells[j].node, o.cells[j].next) = q then 1 else 0, ⟨rfl, rfl⟩, by omega, bump hes _, fun q => ?_⟩
            (dsimp only; have e := eT q; by_cases hq : (o.cells[j].node, o.cells[j].next) = q; (rw [if_pos ⟨c, hq⟩] at e; rw [if_pos hq]; omega); (rw [if_neg (fun x => hq x.2)] at e; rw [if_neg hq]; omega))
          · rename_i c0
            rw [if_pos c0] at eP
            refine ⟨by ((repeat first | with_reducible apply Keeps.alloc | (with_reducible refine Keeps.set ?_ ?hL _; case hL => first | assumption | exact Hp.ok _ _ (by simp) | exact Keeps.new (by assumption) _ _)); first | assumption | exact Keeps.refl _), np, es, tq, ⟨rfl, rfl⟩, by omega, hes, fun q => ?_⟩
            (have e := eT q; rw [if_neg (fun x => c x.1)] at e; omega)
        · clear k3 k4 k5 k10 k7 k9 k11 k43 gK eP hes eT
          rintro t2 d3 f2 g65 g64 ⟨⟨k3, k4, k5, k10⟩, gK, np, es, tq, ⟨k7, k9, k11, k43⟩, eP, hes, eT⟩
          rw [List.drop_length] at eP
          simp only [List.drop_length] at eT
          repeat' first
            | (with_reducible refine CondX.dec (fun c => ?_) (fun c => ?_)) <;> try (exfalso; omega)
            | (with_reducible refine CondX.beq (fun c => ?_) (fun c => ?_)) <;> try (exfalso; omega)
            | (with_reducible refine CondX.bne (fun c => ?_) (fun c => ?_)) <;> try (exfalso; omega)
            | (with_reducible refine CondX.bool (fun c => ?_) (fun c => ?_)) <;> try (exfalso; omega)
            | simp only [go_sem, I_eq, I_cells, T28, Frm.at f2, Frm.at f1, p3, p4, p5, p7, p9, p10, p11, k3, k4, k5, k10, k7, k9, k11, k43, g64, g65, g45, g46, g8, d3, hw, wrap_in, Nat.reduceAdd, Nat.reduceBEq, Nat.reduceEqDiff, Nat.reduceLeDiff, Nat.reduceLT, Nat.reduceSub]
            | simp (disch := omega) only [wrap_in, toNat_succ, toNat_pred, Int.toNat_natCast]
            | with_reducible refine And.intro (by omega) ?_
            | with_reducible refine exI (by omega) ?_
            | fail
          refine ⟨np, sk1, es, tq, ?_⟩
          first | rw [if_pos c] at hsk1 | rw [if_neg c] at hsk1
          rw [hrP, hrS]
          simp only [hrTq]
          have hp0 : placeC [] = 0 := rfl
          have ht0 : ∀ q, toldC q [] = 0 := fun q => rfl
          rw [hp0] at eP
          simp only [ht0] at eT
          (repeat' first | exact rfl | assumption | refine And.intro ?_ ?_ | omega | (intro q; have := eT q; omega) | (congr 1; omega) | exact True.intro))
    · rintro t d2 f1 g46 g45 ⟨⟨k3, k4, k5, k10⟩, gK, np, sk, es, tq, ⟨k7, k9, k11, k43⟩, g8, eP, eS, hes, eT⟩
      rw [List.drop_length] at eP eS
      simp only [List.drop_length] at eT
      have hp0 : placeS obj [] = 0 := rfl
      have hs0 : sinkS obj ss.length [] = 0 := rfl
      have ht0 : ∀ q, toldS obj q [] = 0 := fun q => rfl
      rw [hp0] at eP
      rw [hs0] at eS
      simp only [ht0] at eT
      obtain rfl : np = P0 := by omega
      obtain rfl : sk = S := by omega
      repeat' first
        | (with_reducible refine CondX.dec (fun c => ?_) (fun c => ?_)) <;> try (exfalso; omega)
        | (with_reducible refine CondX.beq (fun c => ?_) (fun c => ?_)) <;> try (exfalso; omega)
        | (with_reducible refine CondX.bne (fun c => ?_) (fun c => ?_)) <;> try (exfalso; omega)
        | (with_reducible refine CondX.bool (fun c => ?_) (fun c => ?_)) <;> try (exfalso; omega)
        | simp only [go_sem, I_eq, I_cells, T28, Frm.at f1, p3, p4, p5, p7, p9, p10, p11, k3, k4, k5, k10, k7, k9, k11, k43, g45, g46, g8, d2, Nat.reduceAdd, Nat.reduceBEq, Nat.reduceEqDiff, Nat.reduceLeDiff, Nat.reduceLT, Nat.reduceSub]
        | simp (disch := omega) only [wrap_in, toNat_succ, toNat_pred, Int.toNat_natCast]
        | with_reducible refine And.intro (by omega) ?_
        | with_reducible refine exI (by omega) ?_
        | fail
      exact ⟨⟨es, rfl, fun q => by rw [hes]; have := eT q; omega⟩, gK⟩
  clear k3 k4 k5 k10 k7 k9 k11 k43 g8 gK
  rintro s1 f1 ⟨⟨k3, k4, k5, k10⟩, ⟨es0, ⟨k7, k9, k11, k43⟩, hes0⟩, g8, gK⟩
  refine awp_cutF [(17, 19), (21, 21), (89, 90), (93, 167)] (by kernel_rfl) (fun s => (s.hp.con ⟨28, 3, h.cnt 28 3⟩ = .blk [treeV ps] ∧ s.hp.con ⟨28, 4, h.cnt 28 4⟩ = .blk [.l ex 6 (ss.map encS)] ∧ s.hp.con ⟨28, 5, h.cnt 28 5⟩ = .blk [.int .i64 obj] ∧ s.hp.con ⟨28, 10, h.cnt 28 10⟩ = .blk [.mr ⟨28, 43, h.cnt 28 43⟩]) ∧ (∃ es : List ((Int × Int) × Int), (s.hp.con ⟨28, 7, h.cnt 28 7⟩ = .blk [.int .i64 ((P : Nat) : Int)] ∧ s.hp.con ⟨28, 9, h.cnt 28 9⟩ = .blk [.int .i64 ((F : Nat) : Int)] ∧ s.hp.con ⟨28, 11, h.cnt 28 11⟩ = .blk [.bool E] ∧ s.hp.con ⟨28, 43, h.cnt 28 43⟩ = .mp (mapI es 0) es.length) ∧ ∀ q, cntI es q = ((T q : Nat) : Int)) ∧ Keeps h s.hp) ?_ ?_
  · refine awp_cutF [(89, 90)] (by kernel_rfl) (fun s => s.slots 90 = .fn (.func 94) [.ip [treeV ps]] ∧ s.hp = s1.hp) ?_ ?_
    · repeat' first
        | (with_reducible refine CondX.dec (fun c => ?_) (fun c => ?_)) <;> try (exfalso; omega)
        | (with_reducible refine CondX.beq (fun c => ?_) (fun c => ?_)) <;> try (exfalso; omega)
        | (with_reducible refine CondX.bne (fun c => ?_) (fun c => ?_)) <;> try (exfalso; omega)
        | (with_reducible refine CondX.bool (fun c => ?_) (fun c => ?_)) <;> try (exfalso; omega)
        | ((with_reducible refine CallX.id ?_); first | refine CallX.pure (Edges_spec ps) ?_)
        | simp only [go_sem, I_eq, I_cells, T28, Frm.at f1, p3, p4, p5, p7, p9, p10, p11, k3, k4, k5, k10, k7, k9, k11, k43, Nat.reduceAdd, Nat.reduceBEq, Nat.reduceEqDiff, Nat.reduceLeDiff, Nat.reduceLT, Nat.reduceSub]
        | simp (disch := omega) only [wrap_in, toNat_succ, toNat_pred, Int.toNat_natCast]
        | with_reducible refine And.intro (by omega) ?_
        | with_reducible refine exI (by omega) ?_
        | fail
    rintro s2 f2 ⟨g90, gH⟩
    repeat' first
      | (with_reducible refine CondX.dec (fun c => ?_) (fun c => ?_)) <;> try (exfalso; omega)
      | (with_reducible refine CondX.beq (fun c => ?_) (fun c => ?_)) <;> try (exfalso; omega)
      | (with_reducible refine CondX.bne (fun c => ?_) (fun c => ?_)) <;> try (exfalso; omega)
      | (with_reducible refine CondX.bool (fun c => ?_) (fun c => ?_)) <;> try (exfalso; omega)
      | simp only [go_sem, I_eq, I_cells, T28, g90, Nat.reduceAdd, Nat.reduceBEq, Nat.reduceEqDiff, Nat.reduceLeDiff, Nat.reduceLT, Nat.reduceSub]
      | simp (disch := omega) only [wrap_in, toNat_succ, toNat_pred, Int.toNat_natCast]
      | with_reducible refine And.intro (by omega) ?_
      | with_reducible refine exI (by omega) ?_
      | fail
    refine iter_rule (fid := 28) (ps := [91, 92]) (T := T28) mixed (Edges_iter ps (by omega)) (by decide) rfl (of_decide_eq_true (by kernel_rfl)) (by kernel_rfl) (by kernel_rfl) (fun x hx => by obtain ⟨y, _, rfl⟩ := List.mem_map.1 hx; rfl)
      (fun j q => (q.con ⟨28, 3, h.cnt 28 3⟩ = .blk [treeV ps] ∧ q.con ⟨28, 4, h.cnt 28 4⟩ = .blk [.l ex 6 (ss.map encS)] ∧ q.con ⟨28, 5, h.cnt 28 5⟩ = .blk [.int .i64 obj] ∧ q.con ⟨28, 10, h.cnt 28 10⟩ = .blk [.mr ⟨28, 43, h.cnt 28 43⟩]) ∧ Keeps h q ∧ ∃ (np nf : Nat) (ed : Bool) (es : List ((Int × Int) × Int)) (tq : Int × Int → Nat), (q.con ⟨28, 7, h.cnt 28 7⟩ = .blk [.int .i64 ((np : Nat) : Int)] ∧ q.con ⟨28, 9, h.cnt 28 9⟩ = .blk [.int .i64 ((nf : Nat) : Int)] ∧ q.con ⟨28, 11, h.cnt 28 11⟩ = .blk [.bool ed] ∧ q.con ⟨28, 43, h.cnt 28 43⟩ = .mp (mapI es 0) es.length) ∧ np + countL ps ss 2 obj ((edgesL ps).drop j) = P ∧ nf + countL ps ss 1 obj ((edgesL ps).drop j) = F ∧ (ed && ((edgesL ps).drop j).all (overB ps ss obj)) = E ∧ (∀ q, cntI es q = ((tq q : Nat) : Int)) ∧ ∀ q, tq q + toldE ps ss obj q ((edgesL ps).drop j) = T q) (fun _ _ => False) ?_ (fun _ _ _ hf => hf.elim) ?_ ?_ ?_ (fun _ _ _ hf => hf.elim) _
    · rintro j q q' ⟨⟨k3, k4, k5, k10⟩, gk, np, nf, ed, es, tq, ⟨k7, k9, k11, k43⟩, e1, e2, e3, e4, e5⟩ hs
      have e := fun (a b : Nat) (ha : a < 1000000) => hs ⟨28, a, b⟩ (.inr ⟨by simp, nlp ha⟩)
      refine ⟨⟨by rw [e _ _ (by decide), k3], by rw [e _ _ (by decide), k4], by rw [e _ _ (by decide), k5], by rw [e _ _ (by decide), k10]⟩, hs.keeps (gH ▸ gK) gk, np, nf, ed, es, tq, ⟨by rw [e _ _ (by decide), k7], by rw [e _ _ (by decide), k9], by rw [e _ _ (by decide), k11], by rw [e _ _ (by decide), k43]⟩, e1, e2, e3, e4, e5⟩
    · rw [gH]
      refine ⟨⟨k3, k4, k5, k10⟩, gK, P0, 0, true, es0, fun q => toldS obj q ss, ⟨k7, k9, k11, k43⟩, ?_, ?_, ?_, hes0, ?_⟩
      · rw [List.drop_zero, ← hP, hP0]
      · rw [List.drop_zero, hF]; omega
      · rw [List.drop_zero, hE]; rfl
      · intro q; rw [List.drop_zero, hTq]
    · clear k3 k4 k5 k10 k7 k9 k11 k43
      rintro j hj q ⟨⟨k3, k4, k5, k10⟩, gk, np, nf, ed, es, tq, ⟨k7, k9, k11, k43⟩, e1, e2, e3, e4, e5⟩
      rw [List.length_map] at hj
      rw [List.getElem_map]
      obtain ⟨a, b, hab, hbl, hnb, hp⟩ := (mem_edgesL hok).1 (List.getElem_mem hj)
      rw [drop_cons hj, hp] at e1 e2 e3
      simp only [drop_cons hj, hp] at e5
      rw [hp]
      rw [countL] at e1 e2
      rw [List.all_cons] at e3
      simp only [toldE] at e5
      obtain ⟨rP, hrP⟩ : ∃ x, countL ps ss 2 obj ((edgesL ps).drop (j + 1)) = x := ⟨_, rfl⟩
      obtain ⟨rF, hrF⟩ : ∃ x, countL ps ss 1 obj ((edgesL ps).drop (j + 1)) = x := ⟨_, rfl⟩
      obtain ⟨rE, hrE⟩ : ∃ x, ((edgesL ps).drop (j + 1)).all (overB ps ss obj) = x := ⟨_, rfl⟩
      obtain ⟨rT, hrT⟩ : ∃ x : Int × Int → Nat, (fun q => toldE ps ss obj q ((edgesL ps).drop (j + 1))) = x := ⟨_, rfl⟩
      have hrTq : ∀ q, toldE ps ss obj q ((edgesL ps).drop (j + 1)) = rT q := fun q => by rw [← hrT]
      rw [hrP] at e1
      rw [hrF] at e2
      rw [hrE] at e3
      simp only [hrTq] at e5
      rw [hrP, hrF, hrE]
      simp only [hrTq]
      have hla : a < ss.length := by omega
      have hlb : b < ss.length := by omega
      obtain ⟨ja, jao⟩ := hown a hla
      obtain ⟨jb, jbo⟩ := hown b hlb
      obtain ⟨ms, hms⟩ : ∃ ms, leftL ps ss a b ++ leftL ps ss b a = ms := ⟨_, rfl⟩
      have hml : ms.length ≤ 2048 := by rw [← hms, List.length_append]; have := hb a b; have := hb b a; omega
      obtain ⟨o0, ho0⟩ : ∃ x, (if (ownO obj ss[a]).arrow = (b : Int) then 1 else 0) + (if (ownO obj ss[b]).arrow = (a : Int) then 1 else 0) = x := ⟨_, rfl⟩
      have eov : overB ps ss obj ((a : Int), (b : Int)) = (o0 + cntM 1 obj ms == 1) := by
        unfold overB overL bothL
        rw [at0_at (by simpa using hla), at0_at (by simpa using hlb)]
        simp only [Int.toNat_natCast, hms, ho0]
      rw [eov] at e3
      simp only [bothL, hms] at e1 e2 e5
      refine awp_asgF [(17, 18)] (by kernel_rfl) (fun s => s.slots 17 = .int .i64 a ∧ s.slots 18 = .int .i64 b ∧ s.hp = q) ?_ ?_
      · repeat' first
          | (with_reducible refine CondX.dec (fun c => ?_) (fun c => ?_)) <;> try (exfalso; omega)
          | (with_reducible refine CondX.beq (fun c => ?_) (fun c => ?_)) <;> try (exfalso; omega)
          | (with_reducible refine CondX.bne (fun c => ?_) (fun c => ?_)) <;> try (exfalso; omega)
          | (with_reducible refine CondX.bool (fun c => ?_) (fun c => ?_)) <;> try (exfalso; omega)
          | simp only [go_sem, I_eq, I_cells, T28, edgeV, Nat.reduceAdd, Nat.reduceBEq, Nat.reduceEqDiff, Nat.reduceLeDiff, Nat.reduceLT, Nat.reduceSub]
          | simp (disch := omega) only [wrap_in, toNat_succ, toNat_pred, Int.toNat_natCast]
          | with_reducible refine And.intro (by omega) ?_
          | with_reducible refine exI (by omega) ?_
          | fail
      rintro s3 f3 ⟨g17, g18, gq⟩
      rw [awp_block, awp_scope, awp_assoc, awp_assoc, awp_assoc]
      refine awp_cutF [(19, 19), (93, 118)] (by kernel_rfl) (fun s => s.slots 19 = .int .i64 ((o0 : Nat) : Int) ∧ s.hp = q) ?_ ?_
      · repeat' first
          | (with_reducible refine CondX.dec (fun c => ?_) (fun c => ?_)) <;> try (exfalso; omega)
          | (with_reducible refine CondX.beq (fun c => ?_) (fun c => ?_)) <;> try (exfalso; omega)
          | (with_reducible refine CondX.bne (fun c => ?_) (fun c => ?_)) <;> try (exfalso; omega)
          | (with_reducible refine CondX.bool (fun c => ?_) (fun c => ?_)) <;> try (exfalso; omega)
          | simp only [go_sem, I_eq, I_cells, T28, Frm.at f3, Frm.at f2, Frm.at f1, p3, p4, p5, p7, p9, p10, p11, k3, k4, k5, k10, k7, k9, k11, k43, gq, g17, g18, edgeV, encS_cells, encO_cells, encO, jao, jbo, Nat.reduceAdd, Nat.reduceBEq, Nat.reduceEqDiff, Nat.reduceLeDiff, Nat.reduceLT, Nat.reduceSub]
          | simp (disch := omega) only [wrap_in, toNat_succ, toNat_pred, Int.toNat_natCast]
          | with_reducible refine And.intro (by omega) ?_
          | with_reducible refine exI (by omega) ?_
          | fail
        all_goals (
          rename_i c0
          first | rw [if_pos c0] at ho0 | rw [if_neg c0] at ho0
          first | rw [if_pos c] at ho0 | rw [if_neg c] at ho0
          subst ho0
          simp)
      rintro s4 f4 ⟨g19, gq4⟩
      repeat' first
        | (with_reducible refine CondX.dec (fun c => ?_) (fun c => ?_)) <;> try (exfalso; omega)
        | (with_reducible refine CondX.beq (fun c => ?_) (fun c => ?_)) <;> try (exfalso; omega)
        | (with_reducible refine CondX.bne (fun c => ?_) (fun c => ?_)) <;> try (exfalso; omega)
        | (with_reducible refine CondX.bool (fun c => ?_) (fun c => ?_)) <;> try (exfalso; omega)
        | ((with_reducible refine CallX.id ?_); first | refine CallX.pure (Left_spec ps ss ex _ _ hok hs) ?_ | refine CallX.pure (Concat2 _ _ (hb _ _) (hb _ _)) ?_)
        | ((with_reducible refine PureX.id ?_); first | refine PureX.of (Left_spec ps ss ex _ _ hok hs) ?_ | refine PureX.of (Concat2 _ _ (hb _ _) (hb _ _)) ?_)
        | simp only [go_sem, I_eq, I_cells, T28, Frm.at f4, Frm.at f3, Frm.at f2, Frm.at f1, p3, p4, p5, p7, p9, p10, p11, k3, k4, k5, k10, k7, k9, k11, k43, gq4, g17, g18, g19, edgeV, rowM_cells, rowM_cell, Nat.reduceAdd, Nat.reduceBEq, Nat.reduceEqDiff, Nat.reduceLeDiff, Nat.reduceLT, Nat.reduceSub]
        | simp (disch := omega) only [wrap_in, toNat_succ, toNat_pred, Int.toNat_natCast]
        | with_reducible refine And.intro (by omega) ?_
        | with_reducible refine exI (by omega) ?_
        | fail
      rw [hms]
      have hc1 : cntM 1 obj ms ≤ ms.length := List.countP_le_length
      have ho2 : o0 ≤ 2 := by rw [← ho0]; split <;> split <;> omega
      repeat' first
        | (with_reducible refine CondX.dec (fun c => ?_) (fun c => ?_)) <;> try (exfalso; omega)
        | (with_reducible refine CondX.beq (fun c => ?_) (fun c => ?_)) <;> try (exfalso; omega)
        | (with_reducible refine CondX.bne (fun c => ?_) (fun c => ?_)) <;> try (exfalso; omega)
        | (with_reducible refine CondX.bool (fun c => ?_) (fun c => ?_)) <;> try (exfalso; omega)
        | simp only [go_sem, I_eq, I_cells, T28, rowM, Nat.reduceAdd, Nat.reduceBEq, Nat.reduceEqDiff, Nat.reduceLeDiff, Nat.reduceLT, Nat.reduceSub]
        | simp (disch := omega) only [wrap_in, toNat_succ, toNat_pred, Int.toNat_natCast]
        | with_reducible refine And.intro (by omega) ?_
        | with_reducible refine exI (by omega) ?_
        | fail
      refine awp_countF [(19, 19), (21, 21), (132, 162)] (by kernel_rfl) 132 131 (by kernel_rfl) ms.length (by omega) (fun i t => (t.hp.con ⟨28, 3, h.cnt 28 3⟩ = .blk [treeV ps] ∧ t.hp.con ⟨28, 4, h.cnt 28 4⟩ = .blk [.l ex 6 (ss.map encS)] ∧ t.hp.con ⟨28, 5, h.cnt 28 5⟩ = .blk [.int .i64 obj] ∧ t.hp.con ⟨28, 10, h.cnt 28 10⟩ = .blk [.mr ⟨28, 43, h.cnt 28 43⟩]) ∧ Keeps h t.hp ∧ ∃ (np nf o1 : Nat) (es : List ((Int × Int) × Int)) (tq : Int × Int → Nat), (t.hp.con ⟨28, 7, h.cnt 28 7⟩ = .blk [.int .i64 ((np : Nat) : Int)] ∧ t.hp.con ⟨28, 9, h.cnt 28 9⟩ = .blk [.int .i64 ((nf : Nat) : Int)] ∧ t.hp.con ⟨28, 11, h.cnt 28 11⟩ = .blk [.bool ed] ∧ t.hp.con ⟨28, 43, h.cnt 28 43⟩ = .mp (mapI es 0) es.length) ∧ t.slots 19 = .int .i64 o1 ∧ o1 + cntM 1 obj (ms.drop i) = o0 + cntM 1 obj ms ∧ np + (cntM 2 obj (ms.drop i) + rP) = P ∧ nf + (cntM 1 obj (ms.drop i) + rF) = F ∧ (∀ q, cntI es q = ((tq q : Nat) : Int)) ∧ ∀ q, tq q + (toldM obj q (ms.drop i) + rT q) = T q) ?_ ?_ ?_ ?_ ?_
      · simp only [go_sem, I_eq, I_cells, Nat.reduceAdd, Nat.reduceBEq, Nat.reduceEqDiff, Nat.reduceLeDiff, Nat.reduceLT, Nat.reduceSub]
      · simp only [go_sem, I_eq, I_cells, Nat.reduceAdd, Nat.reduceBEq, Nat.reduceEqDiff, Nat.reduceLeDiff, Nat.reduceLT, Nat.reduceSub]
      · simp only [go_sem, I_eq, I_cells, k3, k4, k5, k10, k7, k9, k11, k43, g19, gq4, Nat.reduceAdd, Nat.reduceBEq, Nat.reduceEqDiff, Nat.reduceLeDiff, Nat.reduceLT, Nat.reduceSub]
        refine ⟨gk, np, nf, o0, es, tq, ?_⟩
        (repeat' first | exact rfl | assumption | refine And.intro ?_ ?_ | omega | (intro q; first | exact rfl | assumption | omega | (simp; done)))
      · clear k3 k4 k5 k10 k7 k9 k11 k43 gk e1 e2 e4 e5
        rintro i t hlt d2 hw f5 g132 g131 ⟨⟨k3, k4, k5, k10⟩, gk, np, nf, o1, es, tq, ⟨k7, k9, k11, k43⟩, g19, e0, e1, e2, e4, e5⟩
        rw [drop_cons hlt, cntM_cons] at e0 e1 e2
        simp only [drop_cons hlt, toldM_cons] at e5
        have hcn := e5 (ms[i].node, ms[i].num)
        have hT0 := bT (ms[i].node, ms[i].num)
        repeat' first
          | (with_reducible refine CondX.dec (fun c => ?_) (fun c => ?_)) <;> try (exfalso; omega)
          | (with_reducible refine CondX.beq (fun c => ?_) (fun c => ?_)) <;> try (exfalso; omega)
          | (with_reducible refine CondX.bne (fun c => ?_) (fun c => ?_)) <;> try (exfalso; omega)
          | (with_reducible refine CondX.bool (fun c => ?_) (fun c => ?_)) <;> try (exfalso; omega)
          | with_reducible refine LookX.cn ?_
          | (with_reducible refine EntryX.cn rfl (by simp only [go_sem, I_eq, I_cells, k43, Nat.reduceAdd, Nat.reduceBEq, Nat.reduceEqDiff, Nat.reduceLeDiff, Nat.reduceLT, Nat.reduceSub]) (fun es1 n1 v1 c1 hsl => ?_))
          | with_reducible refine StoreX.cn hsl ?_
          | simp only [go_sem, I_eq, I_cells, T28, Frm.at f5, Frm.at f4, Frm.at f3, Frm.at f2, Frm.at f1, p3, p4, p5, p7, p9, p10, p11, k3, k4, k5, k10, k7, k9, k11, k43, g19, g132, g131, d2, hw, encM, encM_cells, edgeV, e4, Nat.reduceAdd, Nat.reduceBEq, Nat.reduceEqDiff, Nat.reduceLeDiff, Nat.reduceLT, Nat.reduceSub]
          | simp (disch := omega) only [wrap_in, toNat_succ, toNat_pred, Int.toNat_natCast]
          | with_reducible refine And.intro (by omega) ?_
          | with_reducible refine exI (by omega) ?_
          | fail
        · rw [if_neg (by omega)] at e0
          rw [if_neg (by omega)] at e1
          rw [if_neg (by omega)] at e2
          exact ⟨by ((repeat first | with_reducible apply Keeps.alloc | (with_reducible refine Keeps.set ?_ ?hL _; case hL => first | assumption | exact Hp.ok _ _ (by simp) | exact Keeps.new (by assumption) _ _)); first | assumption | exact Keeps.refl _), np, nf, o1, es, tq, ⟨rfl, rfl, rfl⟩, rfl, by omega, by omega, by omega, e4, fun q => by have e := e5 q; rw [if_neg (fun x => c x.1)] at e; omega⟩
        · rename_i c0
          rw [if_pos (by omega)] at e0
          rw [if_neg (by omega)] at e1
          rw [if_pos (by omega)] at e2
          refine ⟨by ((repeat first | with_reducible apply Keeps.alloc | (with_reducible refine Keeps.set ?_ ?hL _; case hL => first | assumption | exact Hp.ok _ _ (by simp) | exact Keeps.new (by assumption) _ _)); first | assumption | exact Keeps.refl _), np, nf + 1, o1 + 1, setI es (ms[i].node, ms[i].num) (((tq (ms[i].node, ms[i].num) : Nat) : Int) + 1), fun q => tq q + if (ms[i].node, ms[i].num) = q then 1 else 0, ⟨rfl, by simp, rfl⟩, by simp, by omega, by omega, by omega, bump e4 _, fun q => ?_⟩
          dsimp only
          have e := e5 q
          by_cases hq : (ms[i].node, ms[i].num) = q
          · rw [if_pos ⟨c0, .inl c, hq⟩] at e; rw [if_pos hq]; omega
          · rw [if_neg (fun x => hq x.2.2)] at e; rw [if_neg hq]; omega
        · rename_i c0 c1
          rw [if_neg (by omega)] at e0
          rw [if_pos (by omega)] at e1
          rw [if_neg (by omega)] at e2
          refine ⟨by ((repeat first | with_reducible apply Keeps.alloc | (with_reducible refine Keeps.set ?_ ?hL _; case hL => first | assumption | exact Hp.ok _ _ (by simp) | exact Keeps.new (by assumption) _ _)); first | assumption | exact Keeps.refl _), np + 1, nf, o1, setI es (ms[i].node, ms[i].num) (((tq (ms[i].node, ms[i].num) : Nat) : Int) + 1), fun q => tq q + if (ms[i].node, ms[i].num) = q then 1 else 0, ⟨by simp, rfl, rfl⟩, rfl, by omega, by omega, by omega, bump e4 _, fun q => ?_⟩
          dsimp only
          have e := e5 q
          by_cases hq : (ms[i].node, ms[i].num) = q
          · rw [if_pos ⟨c0, .inr c, hq⟩] at e; rw [if_pos hq]; omega
          · rw [if_neg (fun x => hq x.2.2)] at e; rw [if_neg hq]; omega
        · rename_i c0 c1
          rw [if_neg (by omega)] at e0
          rw [if_neg (by omega)] at e1
          rw [if_neg (by omega)] at e2
          exact ⟨by ((repeat first | with_reducible apply Keeps.alloc | (with_reducible refine Keeps.set ?_ ?hL _; case hL => first | assumption | exact Hp.ok _ _ (by simp) | exact Keeps.new (by assumption) _ _)); first | assumption | exact Keeps.refl _), np, nf, o1, es, tq, ⟨rfl, rfl, rfl⟩, rfl, by omega, by omega, by omega, e4, fun q => by have e := e5 q; rw [if_neg (fun x => x.2.1.elim c1 c)] at e; omega⟩
      · clear k3 k4 k5 k10 k7 k9 k11 k43 gk e1 e2 e4 e5
        rintro t d2 f5 g132 g131 ⟨⟨k3, k4, k5, k10⟩, gk, np, nf, o1, es, tq, ⟨k7, k9, k11, k43⟩, g19, e0, e1, e2, e4, e5⟩
        rw [List.drop_length] at e0 e1 e2
        simp only [List.drop_length] at e5
        have q1 : cntM 1 obj [] = 0 := rfl
        have q2 : cntM 2 obj [] = 0 := rfl
        have q3 : ∀ q, toldM obj q [] = 0 := fun q => rfl
        rw [q1] at e0 e2
        rw [q2] at e1
        simp only [q3] at e5
        repeat' first
          | (with_reducible refine CondX.dec (fun c => ?_) (fun c => ?_)) <;> try (exfalso; omega)
          | (with_reducible refine CondX.beq (fun c => ?_) (fun c => ?_)) <;> try (exfalso; omega)
          | (with_reducible refine CondX.bne (fun c => ?_) (fun c => ?_)) <;> try (exfalso; omega)
          | (with_reducible refine CondX.bool (fun c => ?_) (fun c => ?_)) <;> try (exfalso; omega)
          | simp only [go_sem, I_eq, I_cells, T28, Frm.at f5, Frm.at f4, Frm.at f3, Frm.at f2, Frm.at f1, p3, p4, p5, p7, p9, p10, p11, k3, k4, k5, k10, k7, k9, k11, k43, g19, g132, g131, d2, edgeV, Nat.reduceAdd, Nat.reduceBEq, Nat.reduceEqDiff, Nat.reduceLeDiff, Nat.reduceLT, Nat.reduceSub]
          | simp (disch := omega) only [wrap_in, toNat_succ, toNat_pred, Int.toNat_natCast]
          | with_reducible refine And.intro (by omega) ?_
          | with_reducible refine exI (by omega) ?_
          | fail
        · refine ⟨KeepsF.nil _ _, by ((repeat first | with_reducible apply Keeps.alloc | (with_reducible refine Keeps.set ?_ ?hL _; case hL => first | assumption | exact Hp.ok _ _ (by simp) | exact Keeps.new (by assumption) _ _)); first | assumption | exact Keeps.refl _), np, nf, ((o1 : Int) == 1), es, tq, ⟨rfl, rfl, rfl, rfl⟩, by omega, by omega, ?_, e4, fun q => by have := e5 q; omega⟩
          obtain rfl : o1 = o0 + cntM 1 obj ms := by omega
          rw [← e3, c, Bool.true_and]
          congr 1
          rw [Bool.eq_iff_iff, beq_iff_eq, beq_iff_eq]; omega
        · exact ⟨KeepsF.nil _ _, by ((repeat first | with_reducible apply Keeps.alloc | (with_reducible refine Keeps.set ?_ ?hL _; case hL => first | assumption | exact Hp.ok _ _ (by simp) | exact Keeps.new (by assumption) _ _)); first | assumption | exact Keeps.refl _), np, nf, false, es, tq, ⟨rfl, rfl, rfl, rfl⟩, by omega, by omega, by rw [← e3, c]; rfl, e4, fun q => by have := e5 q; omega⟩
    · rintro q ⟨⟨k3, k4, k5, k10⟩, gk, np, nf, ed, es, tq, ⟨k7, k9, k11, k43⟩, e1, e2, e3, e4, e5⟩
      rw [List.length_map, List.drop_length] at e1 e2 e3
      simp only [List.length_map, List.drop_length] at e5
      have q1 : countL ps ss 2 obj [] = 0 := rfl
      have q2 : countL ps ss 1 obj [] = 0 := rfl
      have q3 : ∀ q, toldE ps ss obj q [] = 0 := fun q => rfl
      rw [q1] at e1
      rw [q2] at e2
      simp only [q3] at e5
      obtain rfl : np = P := by omega
      obtain rfl : nf = F := by omega
      obtain rfl : ed = E := by simpa using e3
      repeat' first
        | (with_reducible refine CondX.dec (fun c => ?_) (fun c => ?_)) <;> try (exfalso; omega)
        | (with_reducible refine CondX.beq (fun c => ?_) (fun c => ?_)) <;> try (exfalso; omega)
        | (with_reducible refine CondX.bne (fun c => ?_) (fun c => ?_)) <;> try (exfalso; omega)
        | (with_reducible refine CondX.bool (fun c => ?_) (fun c => ?_)) <;> try (exfalso; omega)
        | simp only [go_sem, I_eq, I_cells, T28, Nat.reduceAdd, Nat.reduceBEq, Nat.reduceEqDiff, Nat.reduceLeDiff, Nat.reduceLT, Nat.reduceSub]
        | simp (disch := omega) only [wrap_in, toNat_succ, toNat_pred, Int.toNat_natCast]
        | with_reducible refine And.intro (by omega) ?_
        | with_reducible refine exI (by omega) ?_
        | fail
      exact ⟨⟨k3, k4, k5, k10⟩, ⟨es, ⟨k7, k9, k11, k43⟩, fun q => by rw [e4]; have := e5 q; omega⟩, gk⟩
  clear k3 k4 k5 k10 k7 k9 k11 k43 gK
  rintro s2 f2 ⟨⟨k3, k4, k5, k10⟩, ⟨es, ⟨k7, k9, k11, k43⟩, hes⟩, gK⟩
  have hwF : IntKind.i64.wrap (1 + (F : Int)) = 1 + (F : Int) := IntWalk.i64_in _ (by omega)
  repeat' first
    | (with_reducible refine CondX.dec (fun c => ?_) (fun c => ?_)) <;> try (exfalso; omega)
    | (with_reducible refine CondX.beq (fun c => ?_) (fun c => ?_)) <;> try (exfalso; omega)
    | (with_reducible refine CondX.bne (fun c => ?_) (fun c => ?_)) <;> try (exfalso; omega)
    | (with_reducible refine CondX.bool (fun c => ?_) (fun c => ?_)) <;> try (exfalso; omega)
    | simp only [go_sem, I_eq, I_cells, T28, Frm.at f2, Frm.at f1, p3, p4, p5, p7, p9, p10, p11, k3, k4, k5, k10, k7, k9, k11, k43, g8, hwF, Nat.reduceAdd, Nat.reduceBEq, Nat.reduceEqDiff, Nat.reduceLeDiff, Nat.reduceLT, Nat.reduceSub]
    | simp (disch := omega) only [wrap_in, toNat_succ, toNat_pred, Int.toNat_natCast]
    | with_reducible refine And.intro (by omega) ?_
    | with_reducible refine exI (by omega) ?_
    | fail
  · exact ⟨by unfold lawOf; rw [if_pos (by omega)], gK⟩
  · rename_i c1 c0
    exact ⟨by unfold lawOf; rw [if_neg (by omega), if_neg (by rw [c0]; simp), if_pos (by omega)], gK⟩
  · rename_i c1 c0
    obtain rfl : P = 1 := by omega
    subst c0
    obtain rfl : S = 1 + F := by omega
    have hl2 : lawOf 1 true (1 + F) F H = if H = false then 5 else 0 := by unfold lawOf; rw [if_neg (by omega), if_neg (by simp), if_neg (by omega)]
    rw [hl2]
    refine awp_countF [(6, 6), (22, 23), (25, 25), (181, 210)] (by kernel_rfl) 181 180 (by kernel_rfl) ss.length (by omega) (fun i t => (t.hp.con ⟨28, 3, h.cnt 28 3⟩ = .blk [treeV ps] ∧ t.hp.con ⟨28, 4, h.cnt 28 4⟩ = .blk [.l ex 6 (ss.map encS)] ∧ t.hp.con ⟨28, 5, h.cnt 28 5⟩ = .blk [.int .i64 obj] ∧ t.hp.con ⟨28, 10, h.cnt 28 10⟩ = .blk [.mr ⟨28, 43, h.cnt 28 43⟩]) ∧ t.hp.con ⟨28, 43, h.cnt 28 43⟩ = .mp (mapI es 0) es.length ∧ Keeps h t.hp ∧ heirB T obj i (ss.drop i) = H) ?_ ?_ ?_ ?_ ?_
    · simp only [go_sem, I_eq, I_cells, Nat.reduceAdd, Nat.reduceBEq, Nat.reduceEqDiff, Nat.reduceLeDiff, Nat.reduceLT, Nat.reduceSub]
    · simp only [go_sem, I_eq, I_cells, Nat.reduceAdd, Nat.reduceBEq, Nat.reduceEqDiff, Nat.reduceLeDiff, Nat.reduceLT, Nat.reduceSub]
    · simp only [go_sem, I_eq, I_cells, k3, k4, k5, k10, k7, k9, k11, k43, Nat.reduceAdd, Nat.reduceBEq, Nat.reduceEqDiff, Nat.reduceLeDiff, Nat.reduceLT, Nat.reduceSub]
      exact ⟨gK, hH⟩
    · clear k3 k4 k5 k10 k7 k9 k11 k43 gK
      rintro i t hlt d2 hw f3 g181 g180 ⟨⟨k3, k4, k5, k10⟩, k43, gK, eH⟩
      obtain ⟨hj, hjo⟩ := hown i hlt
      rw [drop_cons hlt, heirB] at eH
      have hcl := hfc _ (List.getElem_mem hlt)
      obtain ⟨o, hoo⟩ : ∃ o, ownO obj ss[i] = o := ⟨_, rfl⟩
      rw [hoo] at hjo hcl eH
      obtain ⟨rH, hrH⟩ : ∃ x, heirB T obj (i + 1) (ss.drop (i + 1)) = x := ⟨_, rfl⟩
      rw [hrH] at eH
      repeat' first
        | (with_reducible refine CondX.dec (fun c => ?_) (fun c => ?_)) <;> try (exfalso; omega)
        | (with_reducible refine CondX.beq (fun c => ?_) (fun c => ?_)) <;> try (exfalso; omega)
        | (with_reducible refine CondX.bne (fun c => ?_) (fun c => ?_)) <;> try (exfalso; omega)
        | (with_reducible refine CondX.bool (fun c => ?_) (fun c => ?_)) <;> try (exfalso; omega)
        | simp only [go_sem, I_eq, I_cells, T28, Frm.at f3, Frm.at f2, Frm.at f1, p3, p4, p5, p7, p9, p10, p11, k3, k4, k5, k10, k43, g180, g181, d2, hw, encS_cells, encO_cells, hjo, encO, Nat.reduceAdd, Nat.reduceBEq, Nat.reduceEqDiff, Nat.reduceLeDiff, Nat.reduceLT, Nat.reduceSub]
        | simp (disch := omega) only [wrap_in, toNat_succ, toNat_pred, Int.toNat_natCast]
        | with_reducible refine And.intro (by omega) ?_
        | with_reducible refine exI (by omega) ?_
        | fail
      refine awp_countF [(6, 6), (25, 25), (193, 209)] (by kernel_rfl) 193 192 (by kernel_rfl) o.cells.length (by omega) (fun j t => (t.hp.con ⟨28, 3, h.cnt 28 3⟩ = .blk [treeV ps] ∧ t.hp.con ⟨28, 4, h.cnt 28 4⟩ = .blk [.l ex 6 (ss.map encS)] ∧ t.hp.con ⟨28, 5, h.cnt 28 5⟩ = .blk [.int .i64 obj] ∧ t.hp.con ⟨28, 10, h.cnt 28 10⟩ = .blk [.mr ⟨28, 43, h.cnt 28 43⟩]) ∧ t.hp.con ⟨28, 43, h.cnt 28 43⟩ = .mp (mapI es 0) es.length ∧ Keeps h t.hp ∧ (heirC T i (o.cells.drop j) && rH) = H) ?_ ?_ ?_ ?_ ?_
      · simp only [go_sem, I_eq, I_cells, Nat.reduceAdd, Nat.reduceBEq, Nat.reduceEqDiff, Nat.reduceLeDiff, Nat.reduceLT, Nat.reduceSub]
      · simp only [go_sem, I_eq, I_cells, Nat.reduceAdd, Nat.reduceBEq, Nat.reduceEqDiff, Nat.reduceLeDiff, Nat.reduceLT, Nat.reduceSub]
      · simp only [go_sem, I_eq, I_cells, k3, k4, k5, k10, k43, Nat.reduceAdd, Nat.reduceBEq, Nat.reduceEqDiff, Nat.reduceLeDiff, Nat.reduceLT, Nat.reduceSub]
        exact ⟨by ((repeat first | with_reducible apply Keeps.alloc | (with_reducible refine Keeps.set ?_ ?hL _; case hL => first | assumption | exact Hp.ok _ _ (by simp) | exact Keeps.new (by assumption) _ _)); first | assumption | exact Keeps.refl _), eH⟩
      · clear k3 k4 k5 k10 k43 gK eH
        rintro j t2 hlj d3 hw2 f4 g193 g192 ⟨⟨k3, k4, k5, k10⟩, k43, gK, eH⟩
        rw [drop_cons hlj, heirC_cons] at eH
        repeat' first
          | (with_reducible refine CondX.dec (fun c => ?_) (fun c => ?_)) <;> try (exfalso; omega)
          | (with_reducible refine CondX.beq (fun c => ?_) (fun c => ?_)) <;> try (exfalso; omega)
          | (with_reducible refine CondX.bne (fun c => ?_) (fun c => ?_)) <;> try (exfalso; omega)
          | (with_reducible refine CondX.bool (fun c => ?_) (fun c => ?_)) <;> try (exfalso; omega)
          | with_reducible refine LookX.cn ?_
          | simp only [go_sem, I_eq, I_cells, T28, Frm.at f4, Frm.at f3, Frm.at f2, Frm.at f1, p3, p4, p5, p7, p9, p10, p11, k3, k4, k5, k10, k43, g192, g193, d3, hw2, encC_cells, encC, hes, Nat.reduceAdd, Nat.reduceBEq, Nat.reduceEqDiff, Nat.reduceLeDiff, Nat.reduceLT, Nat.reduceSub]
          | simp (disch := omega) only [wrap_in, toNat_succ, toNat_pred, Int.toNat_natCast]
          | with_reducible refine And.intro (by omega) ?_
          | with_reducible refine exI (by omega) ?_
          | fail
        · rename_i c0
          have ht : T ((i : Int), o.cells[j].num) ≠ 1 := by omega
          have hH0 : H = false := by rw [← eH]; simp [c0, ht]
          exact ⟨by rw [hH0]; rfl, by ((repeat first | with_reducible apply Keeps.alloc | (with_reducible refine Keeps.set ?_ ?hL _; case hL => first | assumption | exact Hp.ok _ _ (by simp) | exact Keeps.new (by assumption) _ _)); first | assumption | exact Keeps.refl _)⟩
        · rename_i c0
          have ht : T ((i : Int), o.cells[j].num) = 1 := by omega
          exact ⟨by ((repeat first | with_reducible apply Keeps.alloc | (with_reducible refine Keeps.set ?_ ?hL _; case hL => first | assumption | exact Hp.ok _ _ (by simp) | exact Keeps.new (by assumption) _ _)); first | assumption | exact Keeps.refl _), by rw [← eH]; simp [c0, ht]⟩
        · exact ⟨by ((repeat first | with_reducible apply Keeps.alloc | (with_reducible refine Keeps.set ?_ ?hL _; case hL => first | assumption | exact Hp.ok _ _ (by simp) | exact Keeps.new (by assumption) _ _)); first | assumption | exact Keeps.refl _), by rw [← eH, beq_eq_false_iff_ne.2 c]; rfl⟩
      · clear k3 k4 k5 k10 k43 gK eH
        rintro t2 d3 f4 g193 g192 ⟨⟨k3, k4, k5, k10⟩, k43, gK, eH⟩
        rw [List.drop_length] at eH
        repeat' first
          | (with_reducible refine CondX.dec (fun c => ?_) (fun c => ?_)) <;> try (exfalso; omega)
          | (with_reducible refine CondX.beq (fun c => ?_) (fun c => ?_)) <;> try (exfalso; omega)
          | (with_reducible refine CondX.bne (fun c => ?_) (fun c => ?_)) <;> try (exfalso; omega)
          | (with_reducible refine CondX.bool (fun c => ?_) (fun c => ?_)) <;> try (exfalso; omega)
          | simp only [go_sem, I_eq, I_cells, T28, Frm.at f4, Frm.at f3, Frm.at f2, Frm.at f1, p3, p4, p5, p7, p9, p10, p11, k3, k4, k5, k10, k43, g192, g193, g180, g181, d3, hw, Nat.reduceAdd, Nat.reduceBEq, Nat.reduceEqDiff, Nat.reduceLeDiff, Nat.reduceLT, Nat.reduceSub]
          | simp (disch := omega) only [wrap_in, toNat_succ, toNat_pred, Int.toNat_natCast]
          | with_reducible refine And.intro (by omega) ?_
          | with_reducible refine exI (by omega) ?_
          | fail
        first | exact ⟨gK, by rw [hrH, ← eH]; rfl⟩ | (rw [hrH, ← eH]; rfl)
    · rintro t d2 f3 g181 g180 ⟨⟨k3, k4, k5, k10⟩, k43, gK, eH⟩
      rw [List.drop_length] at eH
      have hH1 : H = true := by rw [← eH]; rfl
      repeat' first
        | (with_reducible refine CondX.dec (fun c => ?_) (fun c => ?_)) <;> try (exfalso; omega)
        | (with_reducible refine CondX.beq (fun c => ?_) (fun c => ?_)) <;> try (exfalso; omega)
        | (with_reducible refine CondX.bne (fun c => ?_) (fun c => ?_)) <;> try (exfalso; omega)
        | (with_reducible refine CondX.bool (fun c => ?_) (fun c => ?_)) <;> try (exfalso; omega)
        | simp only [go_sem, I_eq, I_cells, T28, Frm.at f3, g180, g181, d2, Nat.reduceAdd, Nat.reduceBEq, Nat.reduceEqDiff, Nat.reduceLeDiff, Nat.reduceLT, Nat.reduceSub]
        | simp (disch := omega) only [wrap_in, toNat_succ, toNat_pred, Int.toNat_natCast]
        | with_reducible refine And.intro (by omega) ?_
        | with_reducible refine exI (by omega) ?_
        | fail
      exact ⟨by rw [hH1]; rfl, gK⟩
  · exact ⟨by unfold lawOf; rw [if_neg (by omega), if_pos c], gK⟩
end Go.Proofs.Ytmajndgdfmnchaa
/- fletchref19.Count and told. -/
namespace Go.Gh
theorem leftR_len {ps : List Int} {ss : List Nst} (hs : ∀ s ∈ ss, EdgeOk s) (u v : Int) (hl : ss.length = ps.length) : (leftR ps ss u v).length ≤ 32768 := by
  unfold leftR
  split
  · rename_i h1
    simp only [Bool.and_eq_true, hasN, decide_eq_true_eq] at h1
    have h2 : u.toNat < ss.length := by omega
    have h3 := hs _ (List.getElem_mem h2)
    rw [at0_at h2]
    have h4 := outR_len (seenR u 0 (at0 ss v).edges) v ss[u.toNat].edges (fun e he => (h3.sid e he).out)
    have h5 := h3.len
    omega
  · simp
def cntR (ps : List Int) (ss : List Nst) (kind obj : Int) : Nat := sumT (fun u => sumT (fun v => cntM kind obj (leftR ps ss u v)) ps.length) ps.length
def toldR (ps : List Int) (ss : List Nst) (obj : Int) (q : Int × Int) : Nat := sumT (fun u => sumT (fun v => toldM obj q (leftR ps ss u v)) ps.length) ps.length
end Go.Gh
namespace Go.Proofs.Ytmajndgdfmnchaa
open Go Go.T Go.Gh Go.Proofs
set_option linter.unusedSimpArgs false
set_option linter.unusedVariables false
set_option maxRecDepth 10000
set_option maxHeartbeats 4000000
theorem ref_Count_spec (ps : List Int) (e1 e2 : Bool) (ss : List Nst) (kind obj : Int) (hl : ss.length = ps.length) (hn : ps.length ≤ 32) (hs : ∀ s ∈ ss, EdgeOk s) : PureF Try.prog 62 [.l e1 1 (ps.map I), .l e2 6 (ss.map encS), .int .i64 kind, .int .i64 obj] (.int .i64 (cntR ps ss kind obj)) := by
  have hb := fun u v => leftR_len hs u v hl
  have hc : ∀ u v, cntM kind obj (leftR ps ss u v) ≤ 32768 := fun u v => Nat.le_trans List.countP_le_length (hb u v)
  have hf : ∀ u n, n ≤ 32 → sumT (fun v => cntM kind obj (leftR ps ss u v)) n ≤ 32 * 32768 := fun u n h => Nat.le_trans (sumT_le (b := 32768) fun i _ => hc _ _) (Nat.mul_le_mul_right _ h)
  refine PureF.of_awp mixed (fun _ => []) (fn := Try.f62) (by kernel_rfl) rfl (by kernel_rfl) (by show 4 ≤ _; decide) (by simp [AV.lf]) (fun h => ?_)
  unfold cntR
  repeat' first
    | (with_reducible refine CondX.dec (fun c => ?_) (fun c => ?_)) <;> try (exfalso; omega)
    | (with_reducible refine CondX.beq (fun c => ?_) (fun c => ?_)) <;> try (exfalso; omega)
    | (with_reducible refine CondX.bne (fun c => ?_) (fun c => ?_)) <;> try (exfalso; omega)
    | (with_reducible refine CondX.bool (fun c => ?_) (fun c => ?_)) <;> try (exfalso; omega)
    | simp only [go_sem, I_eq, I_cells, Nat.reduceAdd, Nat.reduceBEq, Nat.reduceEqDiff, Nat.reduceLeDiff, Nat.reduceLT, Nat.reduceSub]
    | simp (disch := omega) only [wrap_in, toNat_succ, toNat_pred, Int.toNat_natCast]
    | with_reducible refine And.intro (by omega) ?_
    | with_reducible refine exI (by omega) ?_
    | fail
  refine awp_countF [(9, 11), (13, 13), (16, 48)] (by kernel_rfl) 16 15 (by kernel_rfl) ps.length (by omega) (fun i t => t.slots 9 = .int .i64 ((sumT (fun u => sumT (fun v => cntM kind obj (leftR ps ss u v)) ps.length) i : Nat) : Int) ∧ Keeps h t.hp) ?_ ?_ ?_ ?_ ?_
  · simp only [go_sem, I_eq, I_cells, Nat.reduceAdd, Nat.reduceBEq, Nat.reduceEqDiff, Nat.reduceLeDiff, Nat.reduceLT, Nat.reduceSub]
  · simp only [go_sem, I_eq, I_cells, Nat.reduceAdd, Nat.reduceBEq, Nat.reduceEqDiff, Nat.reduceLeDiff, Nat.reduceLT, Nat.reduceSub]
  · simp only [go_sem, I_eq, I_cells, Nat.reduceAdd, Nat.reduceBEq, Nat.reduceEqDiff, Nat.reduceLeDiff, Nat.reduceLT, Nat.reduceSub]
    exact ⟨rfl, Keeps.refl h⟩
  · rintro i t hlt d2 hw f1 g16 g15 ⟨g9, gK⟩
    have b1 := sumT_le (n := i) (f := fun u => sumT (fun v => cntM kind obj (leftR ps ss u v)) ps.length) (b := 32 * 32768) fun u _ => hf u _ hn
    have b2 : i * (32 * 32768) ≤ 32 * (32 * 32768) := Nat.mul_le_mul_right _ (by omega)
    obtain ⟨x, hx⟩ : ∃ x, sumT (fun u => sumT (fun v => cntM kind obj (leftR ps ss u v)) ps.length) i = x := ⟨_, rfl⟩
    simp only [sumT]
    rw [hx] at g9 b1 ⊢
    repeat' first
      | (with_reducible refine CondX.dec (fun c => ?_) (fun c => ?_)) <;> try (exfalso; omega)
      | (with_reducible refine CondX.beq (fun c => ?_) (fun c => ?_)) <;> try (exfalso; omega)
      | (with_reducible refine CondX.bne (fun c => ?_) (fun c => ?_)) <;> try (exfalso; omega)
      | (with_reducible refine CondX.bool (fun c => ?_) (fun c => ?_)) <;> try (exfalso; omega)
      | simp only [go_sem, I_eq, I_cells, Frm.at f1, g9, g15, g16, d2, hw, Nat.reduceAdd, Nat.reduceBEq, Nat.reduceEqDiff, Nat.reduceLeDiff, Nat.reduceLT, Nat.reduceSub]
      | simp (disch := omega) only [wrap_in, toNat_succ, toNat_pred, Int.toNat_natCast]
      | with_reducible refine And.intro (by omega) ?_
      | with_reducible refine exI (by omega) ?_
      | fail
    refine awp_countF [(9, 9), (11, 11), (13, 13), (21, 47)] (by kernel_rfl) 21 20 (by kernel_rfl) ps.length (by omega) (fun j t => t.slots 9 = .int .i64 ((x + sumT (fun v => cntM kind obj (leftR ps ss i v)) j : Nat) : Int) ∧ Keeps h t.hp) ?_ ?_ ?_ ?_ ?_
    · simp only [go_sem, I_eq, I_cells, Nat.reduceAdd, Nat.reduceBEq, Nat.reduceEqDiff, Nat.reduceLeDiff, Nat.reduceLT, Nat.reduceSub]
    · simp only [go_sem, I_eq, I_cells, Nat.reduceAdd, Nat.reduceBEq, Nat.reduceEqDiff, Nat.reduceLeDiff, Nat.reduceLT, Nat.reduceSub]
    · simp only [go_sem, I_eq, I_cells, g9, Nat.reduceAdd, Nat.reduceBEq, Nat.reduceEqDiff, Nat.reduceLeDiff, Nat.reduceLT, Nat.reduceSub]
      exact ⟨rfl, gK⟩
    · clear g9 gK
      rintro j t2 hlj d3 hw2 f2 g21 g20 ⟨g9, gK⟩
      have b3 := hf i j (by omega)
      obtain ⟨y, hy⟩ : ∃ y, x + sumT (fun v => cntM kind obj (leftR ps ss i v)) j = y := ⟨_, rfl⟩
      simp only [sumT]
      rw [← Nat.add_assoc]
      rw [hy] at g9 ⊢
      have b4 := hb i j
      have hsp := ref_Left_spec ps e1 e2 ss i j hl hs
      obtain ⟨ms, hms⟩ : ∃ ms, leftR ps ss i j = ms := ⟨_, rfl⟩
      rw [hms] at b4 hsp ⊢
      have b5 : cntM kind obj ms ≤ ms.length := List.countP_le_length
      obtain ⟨tot, htot⟩ : ∃ z, y + cntM kind obj ms = z := ⟨_, rfl⟩
      repeat' first
        | (with_reducible refine CondX.dec (fun c => ?_) (fun c => ?_)) <;> try (exfalso; omega)
        | (with_reducible refine CondX.beq (fun c => ?_) (fun c => ?_)) <;> try (exfalso; omega)
        | (with_reducible refine CondX.bne (fun c => ?_) (fun c => ?_)) <;> try (exfalso; omega)
        | (with_reducible refine CondX.bool (fun c => ?_) (fun c => ?_)) <;> try (exfalso; omega)
        | ((with_reducible refine CallX.id ?_); first | refine CallX.pure (hsp) ?_)
        | simp only [go_sem, I_eq, I_cells, Frm.at f2, Frm.at f1, g9, g20, g21, d3, hw2, rowM, Nat.reduceAdd, Nat.reduceBEq, Nat.reduceEqDiff, Nat.reduceLeDiff, Nat.reduceLT, Nat.reduceSub]
        | simp (disch := omega) only [wrap_in, toNat_succ, toNat_pred, Int.toNat_natCast]
        | with_reducible refine And.intro (by omega) ?_
        | with_reducible refine exI (by omega) ?_
        | fail
      refine awp_countF [(9, 9), (13, 13), (30, 46)] (by kernel_rfl) 30 29 (by kernel_rfl) ms.length (by omega) (fun k t => (∃ z : Nat, t.slots 9 = .int .i64 z ∧ z + cntM kind obj (ms.drop k) = tot) ∧ Keeps h t.hp) ?_ ?_ ?_ ?_ ?_
      · simp only [go_sem, I_eq, I_cells, Nat.reduceAdd, Nat.reduceBEq, Nat.reduceEqDiff, Nat.reduceLeDiff, Nat.reduceLT, Nat.reduceSub]
      · simp only [go_sem, I_eq, I_cells, Nat.reduceAdd, Nat.reduceBEq, Nat.reduceEqDiff, Nat.reduceLeDiff, Nat.reduceLT, Nat.reduceSub]
      · simp only [go_sem, I_eq, I_cells, g9, Nat.reduceAdd, Nat.reduceBEq, Nat.reduceEqDiff, Nat.reduceLeDiff, Nat.reduceLT, Nat.reduceSub]
        exact ⟨⟨y, rfl, htot⟩, gK⟩
      · clear g9 gK
        rintro k t3 hlk d4 hw3 f3 g30 g29 ⟨⟨z, g9, hz⟩, gK⟩
        rw [drop_cons hlk, cntM_cons] at hz
        repeat' first
          | (with_reducible refine CondX.dec (fun c => ?_) (fun c => ?_)) <;> try (exfalso; omega)
          | (with_reducible refine CondX.beq (fun c => ?_) (fun c => ?_)) <;> try (exfalso; omega)
          | (with_reducible refine CondX.bne (fun c => ?_) (fun c => ?_)) <;> try (exfalso; omega)
          | (with_reducible refine CondX.bool (fun c => ?_) (fun c => ?_)) <;> try (exfalso; omega)
          | simp only [go_sem, I_eq, I_cells, Frm.at f3, Frm.at f2, Frm.at f1, g9, g29, g30, d4, hw3, encM, encM_cells, Nat.reduceAdd, Nat.reduceBEq, Nat.reduceEqDiff, Nat.reduceLeDiff, Nat.reduceLT, Nat.reduceSub]
          | simp (disch := omega) only [wrap_in, toNat_succ, toNat_pred, Int.toNat_natCast]
          | with_reducible refine And.intro (by omega) ?_
          | with_reducible refine exI (by omega) ?_
          | fail
        · rename_i c0
          rw [if_pos (by omega)] at hz
          exact ⟨⟨z + 1, by simp, by omega⟩, by ((repeat first | with_reducible apply Keeps.alloc | (with_reducible refine Keeps.set ?_ ?hL _; case hL => first | assumption | exact Hp.ok _ _ (by simp) | exact Keeps.new (by assumption) _ _)); first | assumption | exact Keeps.refl _)⟩
        · rw [if_neg (by omega)] at hz
          exact ⟨⟨z, rfl, by omega⟩, by ((repeat first | with_reducible apply Keeps.alloc | (with_reducible refine Keeps.set ?_ ?hL _; case hL => first | assumption | exact Hp.ok _ _ (by simp) | exact Keeps.new (by assumption) _ _)); first | assumption | exact Keeps.refl _)⟩
        · rw [if_neg (by omega)] at hz
          exact ⟨⟨z, rfl, by omega⟩, by ((repeat first | with_reducible apply Keeps.alloc | (with_reducible refine Keeps.set ?_ ?hL _; case hL => first | assumption | exact Hp.ok _ _ (by simp) | exact Keeps.new (by assumption) _ _)); first | assumption | exact Keeps.refl _)⟩
      · clear g9 gK
        rintro t3 d4 f3 g30 g29 ⟨⟨z, g9, hz⟩, gK⟩
        rw [List.drop_length, show cntM kind obj [] = 0 from rfl] at hz
        repeat' first
          | (with_reducible refine CondX.dec (fun c => ?_) (fun c => ?_)) <;> try (exfalso; omega)
          | (with_reducible refine CondX.beq (fun c => ?_) (fun c => ?_)) <;> try (exfalso; omega)
          | (with_reducible refine CondX.bne (fun c => ?_) (fun c => ?_)) <;> try (exfalso; omega)
          | (with_reducible refine CondX.bool (fun c => ?_) (fun c => ?_)) <;> try (exfalso; omega)
          | simp only [go_sem, I_eq, I_cells, Frm.at f3, Frm.at f2, Frm.at f1, g9, g29, g30, g20, g21, d4, hw2, Nat.reduceAdd, Nat.reduceBEq, Nat.reduceEqDiff, Nat.reduceLeDiff, Nat.reduceLT, Nat.reduceSub]
          | simp (disch := omega) only [wrap_in, toNat_succ, toNat_pred, Int.toNat_natCast]
          | with_reducible refine And.intro (by omega) ?_
          | with_reducible refine exI (by omega) ?_
          | fail
        all_goals first | exact ⟨by congr 2; omega, gK⟩ | (congr 2; omega)
    · clear g9 gK
      rintro t2 d3 f2 g21 g20 ⟨g9, gK⟩
      repeat' first
        | (with_reducible refine CondX.dec (fun c => ?_) (fun c => ?_)) <;> try (exfalso; omega)
        | (with_reducible refine CondX.beq (fun c => ?_) (fun c => ?_)) <;> try (exfalso; omega)
        | (with_reducible refine CondX.bne (fun c => ?_) (fun c => ?_)) <;> try (exfalso; omega)
        | (with_reducible refine CondX.bool (fun c => ?_) (fun c => ?_)) <;> try (exfalso; omega)
        | simp only [go_sem, I_eq, I_cells, Frm.at f2, Frm.at f1, g9, g20, g21, g15, g16, d3, hw, Nat.reduceAdd, Nat.reduceBEq, Nat.reduceEqDiff, Nat.reduceLeDiff, Nat.reduceLT, Nat.reduceSub]
        | simp (disch := omega) only [wrap_in, toNat_succ, toNat_pred, Int.toNat_natCast]
        | with_reducible refine And.intro (by omega) ?_
        | with_reducible refine exI (by omega) ?_
        | fail
      all_goals exact gK
  · rintro t d2 f1 g16 g15 ⟨g9, gK⟩
    repeat' first
      | (with_reducible refine CondX.dec (fun c => ?_) (fun c => ?_)) <;> try (exfalso; omega)
      | (with_reducible refine CondX.beq (fun c => ?_) (fun c => ?_)) <;> try (exfalso; omega)
      | (with_reducible refine CondX.bne (fun c => ?_) (fun c => ?_)) <;> try (exfalso; omega)
      | (with_reducible refine CondX.bool (fun c => ?_) (fun c => ?_)) <;> try (exfalso; omega)
      | simp only [go_sem, I_eq, I_cells, Frm.at f1, g9, g15, g16, d2, Nat.reduceAdd, Nat.reduceBEq, Nat.reduceEqDiff, Nat.reduceLeDiff, Nat.reduceLT, Nat.reduceSub]
      | simp (disch := omega) only [wrap_in, toNat_succ, toNat_pred, Int.toNat_natCast]
      | with_reducible refine And.intro (by omega) ?_
      | with_reducible refine exI (by omega) ?_
      | fail
    all_goals exact gK

theorem ref_told_spec (ps : List Int) (e1 e2 : Bool) (ss : List Nst) (obj node num : Int) (hl : ss.length = ps.length) (hn : ps.length ≤ 32) (hs : ∀ s ∈ ss, EdgeOk s)
    (hown : ∀ i (hi : i < ss.length), ∃ hj : obj.toNat < ss[i].objs.length, ss[i].objs[obj.toNat] = ownO obj ss[i]) (hfc : ∀ s ∈ ss, (ownO obj s).cells.length ≤ 1099511627777) (ho : 0 ≤ obj) (hnode : 0 ≤ node) :
    PureF Try.prog 63 [.l e1 1 (ps.map I), .l e2 6 (ss.map encS), .int .i64 obj, .int .i64 node, .int .i64 num] (.int .i64 (toldS obj (node, num) ss + toldR ps ss obj (node, num) : Nat)) := by
  have hb := fun u v => leftR_len hs u v hl
  have hc : ∀ u v, toldM obj (node, num) (leftR ps ss u v) ≤ 32768 := fun u v => Nat.le_trans List.countP_le_length (hb u v)
  have hf : ∀ u n, n ≤ 32 → sumT (fun v => toldM obj (node, num) (leftR ps ss u v)) n ≤ 32 * 32768 := fun u n h => Nat.le_trans (sumT_le (b := 32768) fun i _ => hc _ _) (Nat.mul_le_mul_right _ h)
  have c4 : toldS obj (node, num) ss ≤ 32 * 1099511627777 := Nat.le_trans (toldS_le obj (node, num) hfc) (Nat.mul_le_mul_right _ (by omega))
  obtain ⟨w, hw0⟩ : ∃ w, toldS obj (node, num) ss = w := ⟨_, rfl⟩
  refine PureF.of_awp mixed (fun _ => []) (fn := Try.f63) (by kernel_rfl) rfl (by kernel_rfl) (by show 5 ≤ _; decide) (by simp [AV.lf]) (fun h => ?_)
  unfold toldR
  rw [hw0] at c4 ⊢
  rw [awp_assoc, awp_assoc]
  refine awp_cutF [(10, 11), (13, 13), (15, 15), (20, 50)] (by kernel_rfl) (fun s => s.slots 11 = .int .i64 (w : Nat) ∧ Keeps h s.hp) ?_ ?_
  · repeat' first
      | (with_reducible refine CondX.dec (fun c => ?_) (fun c => ?_)) <;> try (exfalso; omega)
      | (with_reducible refine CondX.beq (fun c => ?_) (fun c => ?_)) <;> try (exfalso; omega)
      | (with_reducible refine CondX.bne (fun c => ?_) (fun c => ?_)) <;> try (exfalso; omega)
      | (with_reducible refine CondX.bool (fun c => ?_) (fun c => ?_)) <;> try (exfalso; omega)
      | simp only [go_sem, I_eq, I_cells, Nat.reduceAdd, Nat.reduceBEq, Nat.reduceEqDiff, Nat.reduceLeDiff, Nat.reduceLT, Nat.reduceSub]
      | simp (disch := omega) only [wrap_in, toNat_succ, toNat_pred, Int.toNat_natCast]
      | with_reducible refine And.intro (by omega) ?_
      | with_reducible refine exI (by omega) ?_
      | fail
    refine awp_countF [(11, 11), (13, 13), (15, 15), (22, 50)] (by kernel_rfl) 22 21 (by kernel_rfl) ss.length (by omega) (fun i t => (∃ z : Nat, t.slots 11 = .int .i64 z ∧ z + toldS obj (node, num) (ss.drop i) = w) ∧ Keeps h t.hp) ?_ ?_ ?_ ?_ ?_
    · simp only [go_sem, I_eq, I_cells, Nat.reduceAdd, Nat.reduceBEq, Nat.reduceEqDiff, Nat.reduceLeDiff, Nat.reduceLT, Nat.reduceSub]
    · simp only [go_sem, I_eq, I_cells, Nat.reduceAdd, Nat.reduceBEq, Nat.reduceEqDiff, Nat.reduceLeDiff, Nat.reduceLT, Nat.reduceSub]
    · simp only [go_sem, I_eq, I_cells, Nat.reduceAdd, Nat.reduceBEq, Nat.reduceEqDiff, Nat.reduceLeDiff, Nat.reduceLT, Nat.reduceSub]
      exact ⟨⟨0, rfl, by rw [hw0]; omega⟩, Keeps.refl h⟩
    · rintro i t hlt d2 hw f1 g22 g21 ⟨⟨z, g11, hz⟩, gK⟩
      rw [drop_cons hlt, toldS] at hz
      obtain ⟨hj, hjo⟩ := hown i hlt
      have hcl := hfc _ (List.getElem_mem hlt)
      obtain ⟨o, hoo⟩ : ∃ o, ownO obj ss[i] = o := ⟨_, rfl⟩
      rw [hoo] at hjo hcl hz
      obtain ⟨r, hr⟩ : ∃ x, toldS obj (node, num) (ss.drop (i + 1)) = x := ⟨_, rfl⟩
      rw [hr] at hz
      repeat' first
        | (with_reducible refine CondX.dec (fun c => ?_) (fun c => ?_)) <;> try (exfalso; omega)
        | (with_reducible refine CondX.beq (fun c => ?_) (fun c => ?_)) <;> try (exfalso; omega)
        | (with_reducible refine CondX.bne (fun c => ?_) (fun c => ?_)) <;> try (exfalso; omega)
        | (with_reducible refine CondX.bool (fun c => ?_) (fun c => ?_)) <;> try (exfalso; omega)
        | simp only [go_sem, I_eq, I_cells, Frm.at f1, g11, g21, g22, d2, hw, encS_cells, encO_cells, encO, hjo, Nat.reduceAdd, Nat.reduceBEq, Nat.reduceEqDiff, Nat.reduceLeDiff, Nat.reduceLT, Nat.reduceSub]
        | simp (disch := omega) only [wrap_in, toNat_succ, toNat_pred, Int.toNat_natCast]
        | with_reducible refine And.intro (by omega) ?_
        | with_reducible refine exI (by omega) ?_
        | fail
      refine awp_countF [(11, 11), (15, 15), (33, 49)] (by kernel_rfl) 33 32 (by kernel_rfl) o.cells.length (by omega) (fun k t => (∃ z : Nat, t.slots 11 = .int .i64 z ∧ z + (toldC (node, num) (o.cells.drop k) + r) = w) ∧ Keeps h t.hp) ?_ ?_ ?_ ?_ ?_
      · simp only [go_sem, I_eq, I_cells, Nat.reduceAdd, Nat.reduceBEq, Nat.reduceEqDiff, Nat.reduceLeDiff, Nat.reduceLT, Nat.reduceSub]
      · simp only [go_sem, I_eq, I_cells, Nat.reduceAdd, Nat.reduceBEq, Nat.reduceEqDiff, Nat.reduceLeDiff, Nat.reduceLT, Nat.reduceSub]
      · simp only [go_sem, I_eq, I_cells, g11, Nat.reduceAdd, Nat.reduceBEq, Nat.reduceEqDiff, Nat.reduceLeDiff, Nat.reduceLT, Nat.reduceSub]
        exact ⟨⟨z, rfl, hz⟩, by ((repeat first | with_reducible apply Keeps.alloc | (with_reducible refine Keeps.set ?_ ?hL _; case hL => first | assumption | exact Hp.ok _ _ (by simp) | exact Keeps.new (by assumption) _ _)); first | assumption | exact Keeps.refl _)⟩
      · clear g11 gK hz
        rintro k t3 hlk d4 hw3 f3 g33 g32 ⟨⟨z, g11, hz⟩, gK⟩
        rw [drop_cons hlk, toldC_cons] at hz
        repeat' first
          | (with_reducible refine CondX.dec (fun c => ?_) (fun c => ?_)) <;> try (exfalso; omega)
          | (with_reducible refine CondX.beq (fun c => ?_) (fun c => ?_)) <;> try (exfalso; omega)
          | (with_reducible refine CondX.bne (fun c => ?_) (fun c => ?_)) <;> try (exfalso; omega)
          | (with_reducible refine CondX.bool (fun c => ?_) (fun c => ?_)) <;> try (exfalso; omega)
          | simp only [go_sem, I_eq, I_cells, Frm.at f3, Frm.at f1, g11, g32, g33, d4, hw3, encC, encC_cells, Nat.reduceAdd, Nat.reduceBEq, Nat.reduceEqDiff, Nat.reduceLeDiff, Nat.reduceLT, Nat.reduceSub]
          | simp (disch := omega) only [wrap_in, toNat_succ, toNat_pred, Int.toNat_natCast]
          | with_reducible refine And.intro (by omega) ?_
          | with_reducible refine exI (by omega) ?_
          | fail
        · rename_i c0
          rw [if_pos ⟨by omega, Prod.ext c0 c⟩] at hz
          exact ⟨⟨z + 1, by simp, by omega⟩, by ((repeat first | with_reducible apply Keeps.alloc | (with_reducible refine Keeps.set ?_ ?hL _; case hL => first | assumption | exact Hp.ok _ _ (by simp) | exact Keeps.new (by assumption) _ _)); first | assumption | exact Keeps.refl _)⟩
        · rw [if_neg (fun x => c (Prod.ext_iff.1 x.2).2)] at hz
          exact ⟨⟨z, rfl, by omega⟩, by ((repeat first | with_reducible apply Keeps.alloc | (with_reducible refine Keeps.set ?_ ?hL _; case hL => first | assumption | exact Hp.ok _ _ (by simp) | exact Keeps.new (by assumption) _ _)); first | assumption | exact Keeps.refl _)⟩
        · rw [if_neg (fun x => c (Prod.ext_iff.1 x.2).1)] at hz
          exact ⟨⟨z, rfl, by omega⟩, by ((repeat first | with_reducible apply Keeps.alloc | (with_reducible refine Keeps.set ?_ ?hL _; case hL => first | assumption | exact Hp.ok _ _ (by simp) | exact Keeps.new (by assumption) _ _)); first | assumption | exact Keeps.refl _)⟩
      · clear g11 gK hz
        rintro t3 d4 f3 g33 g32 ⟨⟨z, g11, hz⟩, gK⟩
        rw [List.drop_length, show toldC (node, num) [] = 0 from rfl] at hz
        repeat' first
          | (with_reducible refine CondX.dec (fun c => ?_) (fun c => ?_)) <;> try (exfalso; omega)
          | (with_reducible refine CondX.beq (fun c => ?_) (fun c => ?_)) <;> try (exfalso; omega)
          | (with_reducible refine CondX.bne (fun c => ?_) (fun c => ?_)) <;> try (exfalso; omega)
          | (with_reducible refine CondX.bool (fun c => ?_) (fun c => ?_)) <;> try (exfalso; omega)
          | simp only [go_sem, I_eq, I_cells, Frm.at f3, Frm.at f1, g11, g32, g33, g21, g22, d4, hw, Nat.reduceAdd, Nat.reduceBEq, Nat.reduceEqDiff, Nat.reduceLeDiff, Nat.reduceLT, Nat.reduceSub]
          | simp (disch := omega) only [wrap_in, toNat_succ, toNat_pred, Int.toNat_natCast]
          | with_reducible refine And.intro (by omega) ?_
          | with_reducible refine exI (by omega) ?_
          | fail
        all_goals first | exact ⟨⟨z, rfl, by rw [hr]; omega⟩, gK⟩ | exact ⟨z, rfl, by rw [hr]; omega⟩
    · rintro t d2 f1 g22 g21 ⟨⟨z, g11, hz⟩, gK⟩
      rw [List.drop_length, show toldS obj (node, num) [] = 0 from rfl] at hz
      repeat' first
        | (with_reducible refine CondX.dec (fun c => ?_) (fun c => ?_)) <;> try (exfalso; omega)
        | (with_reducible refine CondX.beq (fun c => ?_) (fun c => ?_)) <;> try (exfalso; omega)
        | (with_reducible refine CondX.bne (fun c => ?_) (fun c => ?_)) <;> try (exfalso; omega)
        | (with_reducible refine CondX.bool (fun c => ?_) (fun c => ?_)) <;> try (exfalso; omega)
        | simp only [go_sem, I_eq, I_cells, Frm.at f1, g11, g21, g22, d2, Nat.reduceAdd, Nat.reduceBEq, Nat.reduceEqDiff, Nat.reduceLeDiff, Nat.reduceLT, Nat.reduceSub]
        | simp (disch := omega) only [wrap_in, toNat_succ, toNat_pred, Int.toNat_natCast]
        | with_reducible refine And.intro (by omega) ?_
        | with_reducible refine exI (by omega) ?_
        | fail
      all_goals first | exact ⟨by congr 2, gK⟩ | exact ⟨by congr 2; omega, gK⟩
  rintro s0 f0 ⟨g11, gK⟩
  repeat' first
    | (with_reducible refine CondX.dec (fun c => ?_) (fun c => ?_)) <;> try (exfalso; omega)
    | (with_reducible refine CondX.beq (fun c => ?_) (fun c => ?_)) <;> try (exfalso; omega)
    | (with_reducible refine CondX.bne (fun c => ?_) (fun c => ?_)) <;> try (exfalso; omega)
    | (with_reducible refine CondX.bool (fun c => ?_) (fun c => ?_)) <;> try (exfalso; omega)
    | simp only [go_sem, I_eq, I_cells, Frm.at f0, g11, Nat.reduceAdd, Nat.reduceBEq, Nat.reduceEqDiff, Nat.reduceLeDiff, Nat.reduceLT, Nat.reduceSub]
    | simp (disch := omega) only [wrap_in, toNat_succ, toNat_pred, Int.toNat_natCast]
    | with_reducible refine And.intro (by omega) ?_
    | with_reducible refine exI (by omega) ?_
    | fail
  refine awp_countF [(11, 11), (16, 17), (19, 19), (53, 101)] (by kernel_rfl) 53 52 (by kernel_rfl) ps.length (by omega) (fun i t => t.slots 11 = .int .i64 ((w + sumT (fun u => sumT (fun v => toldM obj (node, num) (leftR ps ss u v)) ps.length) i : Nat) : Int) ∧ Keeps h t.hp) ?_ ?_ ?_ ?_ ?_
  · simp only [go_sem, I_eq, I_cells, Nat.reduceAdd, Nat.reduceBEq, Nat.reduceEqDiff, Nat.reduceLeDiff, Nat.reduceLT, Nat.reduceSub]
  · simp only [go_sem, I_eq, I_cells, Nat.reduceAdd, Nat.reduceBEq, Nat.reduceEqDiff, Nat.reduceLeDiff, Nat.reduceLT, Nat.reduceSub]
  · simp only [go_sem, I_eq, I_cells, g11, Nat.reduceAdd, Nat.reduceBEq, Nat.reduceEqDiff, Nat.reduceLeDiff, Nat.reduceLT, Nat.reduceSub]
    exact ⟨rfl, gK⟩
  · clear g11 gK
    rintro i t hlt d2 hw f1 g53 g52 ⟨g11, gK⟩
    have b1 := sumT_le (n := i) (f := fun u => sumT (fun v => toldM obj (node, num) (leftR ps ss u v)) ps.length) (b := 32 * 32768) fun u _ => hf u _ hn
    have b2 : i * (32 * 32768) ≤ 32 * (32 * 32768) := Nat.mul_le_mul_right _ (by omega)
    obtain ⟨x, hx⟩ : ∃ x, sumT (fun u => sumT (fun v => toldM obj (node, num) (leftR ps ss u v)) ps.length) i = x := ⟨_, rfl⟩
    simp only [sumT]
    rw [← Nat.add_assoc]
    rw [hx] at g11 b1 ⊢
    repeat' first
      | (with_reducible refine CondX.dec (fun c => ?_) (fun c => ?_)) <;> try (exfalso; omega)
      | (with_reducible refine CondX.beq (fun c => ?_) (fun c => ?_)) <;> try (exfalso; omega)
      | (with_reducible refine CondX.bne (fun c => ?_) (fun c => ?_)) <;> try (exfalso; omega)
      | (with_reducible refine CondX.bool (fun c => ?_) (fun c => ?_)) <;> try (exfalso; omega)
      | simp only [go_sem, I_eq, I_cells, Frm.at f1, Frm.at f0, g11, g52, g53, d2, hw, Nat.reduceAdd, Nat.reduceBEq, Nat.reduceEqDiff, Nat.reduceLeDiff, Nat.reduceLT, Nat.reduceSub]
      | simp (disch := omega) only [wrap_in, toNat_succ, toNat_pred, Int.toNat_natCast]
      | with_reducible refine And.intro (by omega) ?_
      | with_reducible refine exI (by omega) ?_
      | fail
    refine awp_countF [(11, 11), (17, 17), (19, 19), (58, 100)] (by kernel_rfl) 58 57 (by kernel_rfl) ps.length (by omega) (fun j t => t.slots 11 = .int .i64 ((w + x + sumT (fun v => toldM obj (node, num) (leftR ps ss i v)) j : Nat) : Int) ∧ Keeps h t.hp) ?_ ?_ ?_ ?_ ?_
    · simp only [go_sem, I_eq, I_cells, Nat.reduceAdd, Nat.reduceBEq, Nat.reduceEqDiff, Nat.reduceLeDiff, Nat.reduceLT, Nat.reduceSub]
    · simp only [go_sem, I_eq, I_cells, Nat.reduceAdd, Nat.reduceBEq, Nat.reduceEqDiff, Nat.reduceLeDiff, Nat.reduceLT, Nat.reduceSub]
    · simp only [go_sem, I_eq, I_cells, g11, Nat.reduceAdd, Nat.reduceBEq, Nat.reduceEqDiff, Nat.reduceLeDiff, Nat.reduceLT, Nat.reduceSub]
      exact ⟨rfl, gK⟩
    · clear g11 gK
      rintro j t2 hlj d3 hw2 f2 g58 g57 ⟨g11, gK⟩
      have b3 := hf i j (by omega)
      obtain ⟨y, hy⟩ : ∃ y, w + x + sumT (fun v => toldM obj (node, num) (leftR ps ss i v)) j = y := ⟨_, rfl⟩
      simp only [sumT]
      rw [← Nat.add_assoc]
      rw [hy] at g11 ⊢
      have b4 := hb i j
      have hsp := ref_Left_spec ps e1 e2 ss i j hl hs
      obtain ⟨ms, hms⟩ : ∃ ms, leftR ps ss i j = ms := ⟨_, rfl⟩
      rw [hms] at b4 hsp ⊢
      have b5 : toldM obj (node, num) ms ≤ ms.length := List.countP_le_length
      obtain ⟨tot, htot⟩ : ∃ z, y + toldM obj (node, num) ms = z := ⟨_, rfl⟩
      repeat' first
        | (with_reducible refine CondX.dec (fun c => ?_) (fun c => ?_)) <;> try (exfalso; omega)
        | (with_reducible refine CondX.beq (fun c => ?_) (fun c => ?_)) <;> try (exfalso; omega)
        | (with_reducible refine CondX.bne (fun c => ?_) (fun c => ?_)) <;> try (exfalso; omega)
        | (with_reducible refine CondX.bool (fun c => ?_) (fun c => ?_)) <;> try (exfalso; omega)
        | ((with_reducible refine CallX.id ?_); first | refine CallX.pure (hsp) ?_)
        | simp only [go_sem, I_eq, I_cells, Frm.at f2, Frm.at f1, Frm.at f0, g11, g57, g58, d3, hw2, rowM, Nat.reduceAdd, Nat.reduceBEq, Nat.reduceEqDiff, Nat.reduceLeDiff, Nat.reduceLT, Nat.reduceSub]
        | simp (disch := omega) only [wrap_in, toNat_succ, toNat_pred, Int.toNat_natCast]
        | with_reducible refine And.intro (by omega) ?_
        | with_reducible refine exI (by omega) ?_
        | fail
      refine awp_countF [(11, 11), (19, 19), (67, 99)] (by kernel_rfl) 67 66 (by kernel_rfl) ms.length (by omega) (fun k t => (∃ z : Nat, t.slots 11 = .int .i64 z ∧ z + toldM obj (node, num) (ms.drop k) = tot) ∧ Keeps h t.hp) ?_ ?_ ?_ ?_ ?_
      · simp only [go_sem, I_eq, I_cells, Nat.reduceAdd, Nat.reduceBEq, Nat.reduceEqDiff, Nat.reduceLeDiff, Nat.reduceLT, Nat.reduceSub]
      · simp only [go_sem, I_eq, I_cells, Nat.reduceAdd, Nat.reduceBEq, Nat.reduceEqDiff, Nat.reduceLeDiff, Nat.reduceLT, Nat.reduceSub]
      · simp only [go_sem, I_eq, I_cells, g11, Nat.reduceAdd, Nat.reduceBEq, Nat.reduceEqDiff, Nat.reduceLeDiff, Nat.reduceLT, Nat.reduceSub]
        exact ⟨⟨y, rfl, htot⟩, gK⟩
      · clear g11 gK
        rintro k t3 hlk d4 hw3 f3 g67 g66 ⟨⟨z, g11, hz⟩, gK⟩
        rw [drop_cons hlk, toldM_cons] at hz
        repeat' first
          | (with_reducible refine CondX.dec (fun c => ?_) (fun c => ?_)) <;> try (exfalso; omega)
          | (with_reducible refine CondX.beq (fun c => ?_) (fun c => ?_)) <;> try (exfalso; omega)
          | (with_reducible refine CondX.bne (fun c => ?_) (fun c => ?_)) <;> try (exfalso; omega)
          | (with_reducible refine CondX.bool (fun c => ?_) (fun c => ?_)) <;> try (exfalso; omega)
          | simp only [go_sem, I_eq, I_cells, Frm.at f3, Frm.at f2, Frm.at f1, Frm.at f0, g11, g66, g67, d4, hw3, encM, encM_cells, Nat.reduceAdd, Nat.reduceBEq, Nat.reduceEqDiff, Nat.reduceLeDiff, Nat.reduceLT, Nat.reduceSub]
          | simp (disch := omega) only [wrap_in, toNat_succ, toNat_pred, Int.toNat_natCast]
          | with_reducible refine And.intro (by omega) ?_
          | with_reducible refine exI (by omega) ?_
          | fail
        all_goals (
          simp only [Prod.mk.injEq] at hz
          first
            | (rw [if_pos (by omega)] at hz; exact ⟨⟨z + 1, by simp, by omega⟩, by ((repeat first | with_reducible apply Keeps.alloc | (with_reducible refine Keeps.set ?_ ?hL _; case hL => first | assumption | exact Hp.ok _ _ (by simp) | exact Keeps.new (by assumption) _ _)); first | assumption | exact Keeps.refl _)⟩)
            | (rw [if_neg (by omega)] at hz; exact ⟨⟨z, rfl, by omega⟩, by ((repeat first | with_reducible apply Keeps.alloc | (with_reducible refine Keeps.set ?_ ?hL _; case hL => first | assumption | exact Hp.ok _ _ (by simp) | exact Keeps.new (by assumption) _ _)); first | assumption | exact Keeps.refl _)⟩))
      · clear g11 gK
        rintro t3 d4 f3 g67 g66 ⟨⟨z, g11, hz⟩, gK⟩
        rw [List.drop_length, show toldM obj (node, num) [] = 0 from rfl] at hz
        repeat' first
          | (with_reducible refine CondX.dec (fun c => ?_) (fun c => ?_)) <;> try (exfalso; omega)
          | (with_reducible refine CondX.beq (fun c => ?_) (fun c => ?_)) <;> try (exfalso; omega)
          | (with_reducible refine CondX.bne (fun c => ?_) (fun c => ?_)) <;> try (exfalso; omega)
          | (with_reducible refine CondX.bool (fun c => ?_) (fun c => ?_)) <;> try (exfalso; omega)
          | simp only [go_sem, I_eq, I_cells, Frm.at f3, Frm.at f2, Frm.at f1, g11, g66, g67, g57, g58, d4, hw2, Nat.reduceAdd, Nat.reduceBEq, Nat.reduceEqDiff, Nat.reduceLeDiff, Nat.reduceLT, Nat.reduceSub]
          | simp (disch := omega) only [wrap_in, toNat_succ, toNat_pred, Int.toNat_natCast]
          | with_reducible refine And.intro (by omega) ?_
          | with_reducible refine exI (by omega) ?_
          | fail
        all_goals first | exact ⟨by congr 2; omega, gK⟩ | (congr 2; omega)
    · clear g11 gK
      rintro t2 d3 f2 g58 g57 ⟨g11, gK⟩
      repeat' first
        | (with_reducible refine CondX.dec (fun c => ?_) (fun c => ?_)) <;> try (exfalso; omega)
        | (with_reducible refine CondX.beq (fun c => ?_) (fun c => ?_)) <;> try (exfalso; omega)
        | (with_reducible refine CondX.bne (fun c => ?_) (fun c => ?_)) <;> try (exfalso; omega)
        | (with_reducible refine CondX.bool (fun c => ?_) (fun c => ?_)) <;> try (exfalso; omega)
        | simp only [go_sem, I_eq, I_cells, Frm.at f2, Frm.at f1, g11, g57, g58, g52, g53, d3, hw, Nat.reduceAdd, Nat.reduceBEq, Nat.reduceEqDiff, Nat.reduceLeDiff, Nat.reduceLT, Nat.reduceSub]
        | simp (disch := omega) only [wrap_in, toNat_succ, toNat_pred, Int.toNat_natCast]
        | with_reducible refine And.intro (by omega) ?_
        | with_reducible refine exI (by omega) ?_
        | fail
      all_goals exact gK
  · rintro t d2 f1 g53 g52 ⟨g11, gK⟩
    repeat' first
      | (with_reducible refine CondX.dec (fun c => ?_) (fun c => ?_)) <;> try (exfalso; omega)
      | (with_reducible refine CondX.beq (fun c => ?_) (fun c => ?_)) <;> try (exfalso; omega)
      | (with_reducible refine CondX.bne (fun c => ?_) (fun c => ?_)) <;> try (exfalso; omega)
      | (with_reducible refine CondX.bool (fun c => ?_) (fun c => ?_)) <;> try (exfalso; omega)
      | simp only [go_sem, I_eq, I_cells, Frm.at f1, g11, g52, g53, d2, Nat.reduceAdd, Nat.reduceBEq, Nat.reduceEqDiff, Nat.reduceLeDiff, Nat.reduceLT, Nat.reduceSub]
      | simp (disch := omega) only [wrap_in, toNat_succ, toNat_pred, Int.toNat_natCast]
      | with_reducible refine And.intro (by omega) ?_
      | with_reducible refine exI (by omega) ?_
      | fail
    all_goals exact gK
end Go.Proofs.Ytmajndgdfmnchaa
