/- Part of a proof: what functions of the given program compute, and plain laws of it. -/
import Derived.Test.YtmajndgdfmnchaaZ17
/- fletchref19.Law. -/
namespace Go.Gh
open Go.Proofs.Ytmajndgdfmnchaa
def overR (ps : List Int) (ss : List Nst) (obj : Int) (u v : Int) : Nat := overL obj ss u v (leftR ps ss u v ++ leftR ps ss v u)
def pairR (ps : List Int) (ss : List Nst) (obj : Int) (u v : Nat) : Bool := !(decide (u < v) && nearB ps u v) || overR ps ss obj u v == 1
def edgesR (ps : List Int) (ss : List Nst) (obj : Int) : Bool := (List.range ps.length).all fun u => (List.range ps.length).all fun v => pairR ps ss obj u v
theorem edgesR_iff {ps : List Int} {ss : List Nst} {obj : Int} : edgesR ps ss obj = true ↔ ∀ u, u < ps.length → ∀ v, v < ps.length → pairR ps ss obj u v = true := by
  unfold edgesR
  simp only [List.all_eq_true, List.mem_range]
def lawR (ps : List Int) (ss : List Nst) (obj : Int) : Int :=
  if fitR ps ss && decide (0 ≤ obj) && decide (obj < objN ss) then
    lawOf (placeS obj ss + cntR ps ss 2 obj) (edgesR ps ss obj) (sinkS obj 0 ss) (cntR ps ss 1 obj) (heirB (fun q => toldS obj q ss + toldR ps ss obj q) obj 0 ss)
  else 1
theorem leftR_off {ps : List Int} {ss : List Nst} {u v : Int} (h : nearB ps u v = false) : leftR ps ss u v = [] := by
  unfold leftR; rw [h]; simp
theorem law_eq {ps : List Int} (hok : TreeOk ps) (ss : List Nst) (obj : Int) : lawL ps ss obj = lawR ps ss obj := by
  unfold lawL lawR
  rw [← fit_eq hok]
  by_cases hc : (fitB ps ss && decide (0 ≤ obj) && decide (obj < objN ss)) = true
  · rw [if_pos hc, if_pos hc]
    simp only [Bool.and_eq_true] at hc
    have hf := hc.1.1
    have hl : ∀ u v, leftL ps ss u v = leftR ps ss u v := left_eq hok hf
    have e1 : ∀ k, countL ps ss k obj (edgesL ps) = cntR ps ss k obj := fun k => by
      rw [countL_sumE, cntR]
      rw [sum_edges hok _ (fun u v _ _ hn => by rw [hl, leftR_off hn]; rfl)]
      simp only [hl]
    have e2 : ∀ q, toldE ps ss obj q (edgesL ps) = toldR ps ss obj q := fun q => by
      rw [toldE_sumE, toldR]
      rw [sum_edges hok _ (fun u v _ _ hn => by rw [hl, leftR_off hn]; rfl)]
      simp only [hl]
    have e3 : (edgesL ps).all (overB ps ss obj) = edgesR ps ss obj := by
      rw [Bool.eq_iff_iff, edgesR_iff, List.all_eq_true]
      constructor
      · intro h u hu v hv
        unfold pairR
        by_cases hn : u < v ∧ nearB ps u v = true
        · have := h _ ((mem_edgesL hok).2 ⟨u, v, hn.1, hv, hn.2, rfl⟩)
          unfold overB bothL at this
          simp only [hl] at this
          unfold overR
          simp only [this, Bool.or_true]
        · have : (decide (u < v) && nearB ps u v) = false := by
            rw [Bool.eq_false_iff]; intro h2; simp only [Bool.and_eq_true, decide_eq_true_eq] at h2; exact hn h2
          rw [this]; rfl
      · intro h p hp
        obtain ⟨u, v, h1, h2, h3, rfl⟩ := (mem_edgesL hok).1 hp
        have := h u (by omega) v h2
        unfold pairR overR at this
        unfold overB bothL
        simp only [hl]
        rw [h3] at this
        simpa [h1] using this
    rw [e1, e1, e3]
    simp only [e2]
  · rw [if_neg hc, if_neg hc]
end Go.Gh
namespace Go.Proofs.Ytmajndgdfmnchaa
open Go Go.T Go.Gh Go.Proofs
set_option linter.unusedSimpArgs false
set_option linter.unusedVariables false
set_option maxRecDepth 10000
set_option maxHeartbeats 4000000
theorem ref_Law_out (ps : List Int) (e1 e2 : Bool) (ss : List Nst) (obj : Int) (hps : 0 < ps.length ∧ ps.length < 2 ^ 29) (hs : ∀ s ∈ ss, Sized s) (ho : ¬ (fitR ps ss = true ∧ 0 ≤ obj ∧ obj < objN ss)) : PureF Try.prog 29 [.l e1 1 (ps.map I), .l e2 6 (ss.map encS), .int .i64 obj] (.int .i64 1) := by
  refine PureF.of_awp mixed (fun _ => []) (fn := Try.f29) (by kernel_rfl) rfl (by kernel_rfl) (by show 3 ≤ _; decide) (by simp [AV.lf]) (fun h => ?_)
  rw [awp_assoc]
  refine awp_cut (fun _ => False) ?_ (fun s hs => hs.elim)
  cases hf : fitR ps ss
  · repeat' first
      | (with_reducible refine CondX.dec (fun c => ?_) (fun c => ?_)) <;> try (exfalso; omega)
      | (with_reducible refine CondX.beq (fun c => ?_) (fun c => ?_)) <;> try (exfalso; omega)
      | (with_reducible refine CondX.bne (fun c => ?_) (fun c => ?_)) <;> try (exfalso; omega)
      | (with_reducible refine CondX.bool (fun c => ?_) (fun c => ?_)) <;> try (exfalso; omega)
      | ((with_reducible refine CallX.id ?_); first | refine CallX.pure (ref_Fit_spec ps e1 ss e2 hps.2 hs) ?_)
      | simp only [go_sem, I_eq, I_cells, hf, Nat.reduceAdd, Nat.reduceBEq, Nat.reduceEqDiff, Nat.reduceLeDiff, Nat.reduceLT, Nat.reduceSub]
      | simp (disch := omega) only [wrap_in, toNat_succ, toNat_pred, Int.toNat_natCast]
      | with_reducible refine And.intro (by omega) ?_
      | with_reducible refine exI (by omega) ?_
      | fail
    all_goals ((repeat first | with_reducible apply Keeps.alloc | (with_reducible refine Keeps.set ?_ ?hL _; case hL => first | assumption | exact Hp.ok _ _ (by simp) | exact Keeps.new (by assumption) _ _)); first | assumption | exact Keeps.refl _)
  · have hl : ss.length = ps.length := by unfold fitR at hf; simp only [Bool.and_eq_true, beq_iff_eq] at hf; exact hf.1
    have h0 := objN_eq (show 0 < ss.length by omega)
    have ho' : ¬ (0 ≤ obj ∧ obj < objN ss) := fun h => ho ⟨hf, h⟩
    repeat' first
      | (with_reducible refine CondX.dec (fun c => ?_) (fun c => ?_)) <;> try (exfalso; omega)
      | (with_reducible refine CondX.beq (fun c => ?_) (fun c => ?_)) <;> try (exfalso; omega)
      | (with_reducible refine CondX.bne (fun c => ?_) (fun c => ?_)) <;> try (exfalso; omega)
      | (with_reducible refine CondX.bool (fun c => ?_) (fun c => ?_)) <;> try (exfalso; omega)
      | ((with_reducible refine CallX.id ?_); first | refine CallX.pure (ref_Fit_spec ps e1 ss e2 hps.2 hs) ?_)
      | simp only [go_sem, I_eq, I_cells, hf, encS_cells, Nat.reduceAdd, Nat.reduceBEq, Nat.reduceEqDiff, Nat.reduceLeDiff, Nat.reduceLT, Nat.reduceSub]
      | simp (disch := omega) only [wrap_in, toNat_succ, toNat_pred, Int.toNat_natCast]
      | with_reducible refine And.intro (by omega) ?_
      | with_reducible refine exI (by omega) ?_
      | fail
    all_goals first | ((repeat first | with_reducible apply Keeps.alloc | (with_reducible refine Keeps.set ?_ ?hL _; case hL => first | assumption | exact Hp.ok _ _ (by simp) | exact Keeps.new (by assumption) _ _)); first | assumption | exact Keeps.refl _) | (exfalso; omega)
theorem ref_Law_fit (ps : List Int) (e1 e2 : Bool) (ss : List Nst) (obj : Int) (hok : TreeOk ps) (hs : ∀ s ∈ ss, Sized s) (hf : fitB ps ss = true) (ho : 0 ≤ obj ∧ obj < objN ss) : PureF Try.prog 29 [.l e1 1 (ps.map I), .l e2 6 (ss.map encS), .int .i64 obj] (.int .i64 (lawR ps ss obj)) := by
  have hps := hok.len
  obtain ⟨hln, hat⟩ := fit_at hf
  have hss : 0 < ss.length := by omega
  have h0 := objN_eq hss
  have hfc := fit_cells hf obj
  have hek := EdgeOk.of hok hf
  have hb := fun u v => leftR_len hek u v hln
  have hfr : fitR ps ss = true := by rw [← fit_eq hok]; exact hf
  have hown : ∀ i (hi : i < ss.length), ∃ hj : obj.toNat < ss[i].objs.length, ss[i].objs[obj.toNat] = ownO obj ss[i] := fun i hi => by
    have h1 := (hat i hi).2.2
    refine ⟨by omega, ?_⟩
    unfold ownO
    rw [List.getD_eq_getElem?_getD, List.getElem?_eq_getElem (by omega)]
    rfl
  have hcb : ∀ k, cntR ps ss k obj ≤ 32 * (32 * 32768) := fun k => by
    unfold cntR
    refine Nat.le_trans (sumT_le (b := 32 * 32768) fun u _ => Nat.le_trans (sumT_le (b := 32768) fun v _ => Nat.le_trans List.countP_le_length (hb _ _)) (Nat.mul_le_mul_right _ hps.2)) (Nat.mul_le_mul_right _ hps.2)
  have htb : ∀ q, toldR ps ss obj q ≤ 32 * (32 * 32768) := fun q => by
    unfold toldR
    refine Nat.le_trans (sumT_le (b := 32 * 32768) fun u _ => Nat.le_trans (sumT_le (b := 32768) fun v _ => Nat.le_trans List.countP_le_length (hb _ _)) (Nat.mul_le_mul_right _ hps.2)) (Nat.mul_le_mul_right _ hps.2)
  have hs0 := sinkS_le obj ss 0
  have c3 : placeS obj ss ≤ 32 * 1099511627777 := Nat.le_trans (placeS_le obj hfc) (Nat.mul_le_mul_right _ (by omega))
  have c4 : ∀ q, toldS obj q ss ≤ 32 * 1099511627777 := fun q => Nat.le_trans (toldS_le obj q hfc) (Nat.mul_le_mul_right _ (by omega))
  obtain ⟨P0, hP0⟩ : ∃ x, cntR ps ss 2 obj = x := ⟨_, rfl⟩
  obtain ⟨P, hP⟩ : ∃ x, placeS obj ss + cntR ps ss 2 obj = x := ⟨_, rfl⟩
  obtain ⟨F, hF⟩ : ∃ x, cntR ps ss 1 obj = x := ⟨_, rfl⟩
  obtain ⟨S, hS⟩ : ∃ x, sinkS obj 0 ss = x := ⟨_, rfl⟩
  obtain ⟨E, hE⟩ : ∃ x, edgesR ps ss obj = x := ⟨_, rfl⟩
  obtain ⟨T, hT⟩ : ∃ x : Int × Int → Nat, (fun q => toldS obj q ss + toldR ps ss obj q) = x := ⟨_, rfl⟩
  obtain ⟨H, hH⟩ : ∃ x, heirB T obj 0 ss = x := ⟨_, rfl⟩
  have hTq : ∀ q, toldS obj q ss + toldR ps ss obj q = T q := fun q => by rw [← hT]
  have hlaw : lawR ps ss obj = lawOf P E S F H := by
    unfold lawR
    rw [hfr, hP, hF, hS, hE, hT, hH]
    simp [ho.1, ho.2]
  rw [hlaw]
  have bF := hcb 1
  have bP0 := hcb 2
  rw [hF] at bF
  rw [hP0] at bP0
  rw [hP0] at hP
  rw [hS] at hs0
  have cs2 := ref_Count_spec ps e1 e2 ss 2 obj hln hps.2 hek
  have cs1 := ref_Count_spec ps e1 e2 ss 1 obj hln hps.2 hek
  rw [hP0] at cs2
  rw [hF] at cs1
  refine PureF.of_awp mixed (fun _ => []) (fn := Try.f29) (by kernel_rfl) rfl (by kernel_rfl) (by show 3 ≤ _; decide) (by simp [AV.lf]) (fun h => ?_)
  rw [awp_assoc, awp_assoc, awp_assoc]
  refine awp_cutF [(6, 8), (22, 42)] (by kernel_rfl) (fun s => s.slots 7 = .int .i64 (P0 : Nat) ∧ s.slots 8 = .int .i64 0 ∧ Keeps h s.hp) ?_ ?_
  · repeat' first
      | (with_reducible refine CondX.dec (fun c => ?_) (fun c => ?_)) <;> try (exfalso; omega)
      | (with_reducible refine CondX.beq (fun c => ?_) (fun c => ?_)) <;> try (exfalso; omega)
      | (with_reducible refine CondX.bne (fun c => ?_) (fun c => ?_)) <;> try (exfalso; omega)
      | (with_reducible refine CondX.bool (fun c => ?_) (fun c => ?_)) <;> try (exfalso; omega)
      | ((with_reducible refine CallX.id ?_); first | refine CallX.pure (ref_Fit_spec ps e1 ss e2 (by omega) hs) ?_ | refine CallX.pure (cs2) ?_)
      | simp only [go_sem, I_eq, I_cells, hfr, encS_cells, Nat.reduceAdd, Nat.reduceBEq, Nat.reduceEqDiff, Nat.reduceLeDiff, Nat.reduceLT, Nat.reduceSub]
      | simp (disch := omega) only [wrap_in, toNat_succ, toNat_pred, Int.toNat_natCast]
      | with_reducible refine And.intro (by omega) ?_
      | with_reducible refine exI (by omega) ?_
      | fail
    all_goals first | ((repeat first | with_reducible apply Keeps.alloc | (with_reducible refine Keeps.set ?_ ?hL _; case hL => first | assumption | exact Hp.ok _ _ (by simp) | exact Keeps.new (by assumption) _ _)); first | assumption | exact Keeps.refl _) | (exfalso; omega) | skip
  rintro s0 f0 ⟨g7, g8, gK⟩
  refine awp_cutF [(7, 10), (12, 12), (43, 77)] (by kernel_rfl) (fun s => s.slots 7 = .int .i64 (P : Nat) ∧ s.slots 8 = .int .i64 (S : Nat) ∧ Keeps h s.hp) ?_ ?_
  · repeat' first
      | (with_reducible refine CondX.dec (fun c => ?_) (fun c => ?_)) <;> try (exfalso; omega)
      | (with_reducible refine CondX.beq (fun c => ?_) (fun c => ?_)) <;> try (exfalso; omega)
      | (with_reducible refine CondX.bne (fun c => ?_) (fun c => ?_)) <;> try (exfalso; omega)
      | (with_reducible refine CondX.bool (fun c => ?_) (fun c => ?_)) <;> try (exfalso; omega)
      | simp only [go_sem, I_eq, I_cells, Frm.at f0, g7, g8, Nat.reduceAdd, Nat.reduceBEq, Nat.reduceEqDiff, Nat.reduceLeDiff, Nat.reduceLT, Nat.reduceSub]
      | simp (disch := omega) only [wrap_in, toNat_succ, toNat_pred, Int.toNat_natCast]
      | with_reducible refine And.intro (by omega) ?_
      | with_reducible refine exI (by omega) ?_
      | fail
    refine awp_countF [(7, 10), (12, 12), (45, 77)] (by kernel_rfl) 45 44 (by kernel_rfl) ss.length (by omega) (fun i t => (∃ x y : Nat, t.slots 7 = .int .i64 x ∧ t.slots 8 = .int .i64 y ∧ x + placeS obj (ss.drop i) = P ∧ y + sinkS obj i (ss.drop i) = S) ∧ Keeps h t.hp) ?_ ?_ ?_ ?_ ?_
    · simp only [go_sem, I_eq, I_cells, Nat.reduceAdd, Nat.reduceBEq, Nat.reduceEqDiff, Nat.reduceLeDiff, Nat.reduceLT, Nat.reduceSub]
    · simp only [go_sem, I_eq, I_cells, Nat.reduceAdd, Nat.reduceBEq, Nat.reduceEqDiff, Nat.reduceLeDiff, Nat.reduceLT, Nat.reduceSub]
    · simp only [go_sem, I_eq, I_cells, g7, g8, Nat.reduceAdd, Nat.reduceBEq, Nat.reduceEqDiff, Nat.reduceLeDiff, Nat.reduceLT, Nat.reduceSub]
      exact ⟨⟨P0, 0, rfl, rfl, by omega, by omega⟩, gK⟩
    · clear g7 g8 gK
      rintro i t hlt d2 hw f1 g45 g44 ⟨⟨x, y, g7, g8, eP, eS⟩, gK⟩
      obtain ⟨hj, hjo⟩ := hown i hlt
      rw [drop_cons hlt] at eP eS
      rw [placeS] at eP
      rw [sinkS] at eS
      have hcl := hfc _ (List.getElem_mem hlt)
      obtain ⟨o, hoo⟩ : ∃ o, ownO obj ss[i] = o := ⟨_, rfl⟩
      rw [hoo] at hjo eP eS hcl
      obtain ⟨rP, hrP⟩ : ∃ x, placeS obj (ss.drop (i + 1)) = x := ⟨_, rfl⟩
      rw [hrP] at eP
      obtain ⟨y1, hy1⟩ : ∃ z, y + (if o.arrow = (i : Int) then 1 else 0) = z := ⟨_, rfl⟩
      rw [← Nat.add_assoc, hy1] at eS
      repeat' first
        | (with_reducible refine CondX.dec (fun c => ?_) (fun c => ?_)) <;> try (exfalso; omega)
        | (with_reducible refine CondX.beq (fun c => ?_) (fun c => ?_)) <;> try (exfalso; omega)
        | (with_reducible refine CondX.bne (fun c => ?_) (fun c => ?_)) <;> try (exfalso; omega)
        | (with_reducible refine CondX.bool (fun c => ?_) (fun c => ?_)) <;> try (exfalso; omega)
        | simp only [go_sem, I_eq, I_cells, Frm.at f1, Frm.at f0, g7, g8, g44, g45, d2, hw, encS_cells, encO_cells, hjo, encO, Nat.reduceAdd, Nat.reduceBEq, Nat.reduceEqDiff, Nat.reduceLeDiff, Nat.reduceLT, Nat.reduceSub]
        | simp (disch := omega) only [wrap_in, toNat_succ, toNat_pred, Int.toNat_natCast]
        | with_reducible refine And.intro (by omega) ?_
        | with_reducible refine exI (by omega) ?_
        | fail
      all_goals (
        refine awp_countF [(7, 7), (12, 12), (67, 76)] (by kernel_rfl) 67 66 (by kernel_rfl) o.cells.length (by omega) (fun j t => (∃ x : Nat, t.slots 7 = .int .i64 x ∧ x + (placeC (o.cells.drop j) + rP) = P) ∧ Keeps h t.hp) ?_ ?_ ?_ ?_ ?_
        · simp only [go_sem, I_eq, I_cells, Nat.reduceAdd, Nat.reduceBEq, Nat.reduceEqDiff, Nat.reduceLeDiff, Nat.reduceLT, Nat.reduceSub]
        · simp only [go_sem, I_eq, I_cells, Nat.reduceAdd, Nat.reduceBEq, Nat.reduceEqDiff, Nat.reduceLeDiff, Nat.reduceLT, Nat.reduceSub]
        · simp only [go_sem, I_eq, I_cells, g7, Nat.reduceAdd, Nat.reduceBEq, Nat.reduceEqDiff, Nat.reduceLeDiff, Nat.reduceLT, Nat.reduceSub]
          exact ⟨⟨x, rfl, eP⟩, by ((repeat first | with_reducible apply Keeps.alloc | (with_reducible refine Keeps.set ?_ ?hL _; case hL => first | assumption | exact Hp.ok _ _ (by simp) | exact Keeps.new (by assumption) _ _)); first | assumption | exact Keeps.refl _)⟩
        · clear g7 eP gK
          rintro j t2 hlj d3 hw2 f2 g67 g66 ⟨⟨x, g7, eP⟩, gK⟩
          rw [drop_cons hlj, placeC_cons] at eP
          repeat' first
            | (with_reducible refine CondX.dec (fun c => ?_) (fun c => ?_)) <;> try (exfalso; omega)
            | (with_reducible refine CondX.beq (fun c => ?_) (fun c => ?_)) <;> try (exfalso; omega)
            | (with_reducible refine CondX.bne (fun c => ?_) (fun c => ?_)) <;> try (exfalso; omega)
            | (with_reducible refine CondX.bool (fun c => ?_) (fun c => ?_)) <;> try (exfalso; omega)
            | simp only [go_sem, I_eq, I_cells, Frm.at f2, Frm.at f1, Frm.at f0, g7, g66, g67, d3, hw2, encC, encC_cells, Nat.reduceAdd, Nat.reduceBEq, Nat.reduceEqDiff, Nat.reduceLeDiff, Nat.reduceLT, Nat.reduceSub]
            | simp (disch := omega) only [wrap_in, toNat_succ, toNat_pred, Int.toNat_natCast]
            | with_reducible refine And.intro (by omega) ?_
            | with_reducible refine exI (by omega) ?_
            | fail
          · rw [if_neg c] at eP
            exact ⟨⟨x + 1, by simp, by omega⟩, by ((repeat first | with_reducible apply Keeps.alloc | (with_reducible refine Keeps.set ?_ ?hL _; case hL => first | assumption | exact Hp.ok _ _ (by simp) | exact Keeps.new (by assumption) _ _)); first | assumption | exact Keeps.refl _)⟩
          · rw [if_pos c] at eP
            exact ⟨⟨x, rfl, by omega⟩, by ((repeat first | with_reducible apply Keeps.alloc | (with_reducible refine Keeps.set ?_ ?hL _; case hL => first | assumption | exact Hp.ok _ _ (by simp) | exact Keeps.new (by assumption) _ _)); first | assumption | exact Keeps.refl _)⟩
        · clear g7 eP gK
          rintro t2 d3 f2 g67 g66 ⟨⟨x, g7, eP⟩, gK⟩
          rw [List.drop_length, show placeC [] = 0 from rfl] at eP
          repeat' first
            | (with_reducible refine CondX.dec (fun c => ?_) (fun c => ?_)) <;> try (exfalso; omega)
            | (with_reducible refine CondX.beq (fun c => ?_) (fun c => ?_)) <;> try (exfalso; omega)
            | (with_reducible refine CondX.bne (fun c => ?_) (fun c => ?_)) <;> try (exfalso; omega)
            | (with_reducible refine CondX.bool (fun c => ?_) (fun c => ?_)) <;> try (exfalso; omega)
            | simp only [go_sem, I_eq, I_cells, Frm.at f2, Frm.at f1, Frm.at f0, g7, g8, g66, g67, g44, g45, d3, hw, wrap_in, Nat.reduceAdd, Nat.reduceBEq, Nat.reduceEqDiff, Nat.reduceLeDiff, Nat.reduceLT, Nat.reduceSub]
            | simp (disch := omega) only [wrap_in, toNat_succ, toNat_pred, Int.toNat_natCast]
            | with_reducible refine And.intro (by omega) ?_
            | with_reducible refine exI (by omega) ?_
            | fail
          first | rw [if_pos c] at hy1 | rw [if_neg c] at hy1
          first
            | exact ⟨x, y1, rfl, by congr 1; omega, by rw [hrP]; omega, eS⟩
            | exact ⟨⟨x, y1, rfl, by congr 1; omega, by rw [hrP]; omega, eS⟩, gK⟩)
    · rintro t d2 f1 g45 g44 ⟨⟨x, y, g7, g8, eP, eS⟩, gK⟩
      rw [List.drop_length, show placeS obj [] = 0 from rfl] at eP
      rw [List.drop_length, show sinkS obj ss.length [] = 0 from rfl] at eS
      obtain rfl : x = P := by omega
      obtain rfl : y = S := by omega
      repeat' first
        | (with_reducible refine CondX.dec (fun c => ?_) (fun c => ?_)) <;> try (exfalso; omega)
        | (with_reducible refine CondX.beq (fun c => ?_) (fun c => ?_)) <;> try (exfalso; omega)
        | (with_reducible refine CondX.bne (fun c => ?_) (fun c => ?_)) <;> try (exfalso; omega)
        | (with_reducible refine CondX.bool (fun c => ?_) (fun c => ?_)) <;> try (exfalso; omega)
        | simp only [go_sem, I_eq, I_cells, Frm.at f1, Frm.at f0, g7, g8, g44, g45, d2, Nat.reduceAdd, Nat.reduceBEq, Nat.reduceEqDiff, Nat.reduceLeDiff, Nat.reduceLT, Nat.reduceSub]
        | simp (disch := omega) only [wrap_in, toNat_succ, toNat_pred, Int.toNat_natCast]
        | with_reducible refine And.intro (by omega) ?_
        | with_reducible refine exI (by omega) ?_
        | fail
      exact gK
  clear g7 g8 gK
  rintro s1 f1 ⟨g7, g8, gK⟩
  refine awp_cutF [(6, 6), (78, 79)] (by kernel_rfl) (fun s => P = 1 ∧ Keeps h s.hp) ?_ ?_
  · repeat' first
      | (with_reducible refine CondX.dec (fun c => ?_) (fun c => ?_)) <;> try (exfalso; omega)
      | (with_reducible refine CondX.beq (fun c => ?_) (fun c => ?_)) <;> try (exfalso; omega)
      | (with_reducible refine CondX.bne (fun c => ?_) (fun c => ?_)) <;> try (exfalso; omega)
      | (with_reducible refine CondX.bool (fun c => ?_) (fun c => ?_)) <;> try (exfalso; omega)
      | simp only [go_sem, I_eq, I_cells, Frm.at f1, Frm.at f0, g7, Nat.reduceAdd, Nat.reduceBEq, Nat.reduceEqDiff, Nat.reduceLeDiff, Nat.reduceLT, Nat.reduceSub]
      | simp (disch := omega) only [wrap_in, toNat_succ, toNat_pred, Int.toNat_natCast]
      | with_reducible refine And.intro (by omega) ?_
      | with_reducible refine exI (by omega) ?_
      | fail
    · exact ⟨by unfold lawOf; rw [if_pos (by omega)], gK⟩
    · first | exact gK | exact ⟨by omega, gK⟩
  clear g7
  rintro s2 f2 ⟨e1', gK⟩
  subst e1'
  refine awp_cutF [(6, 6), (13, 15), (17, 17), (80, 157)] (by kernel_rfl) (fun s => E = true ∧ Keeps h s.hp) ?_ ?_
  · repeat' first
      | (with_reducible refine CondX.dec (fun c => ?_) (fun c => ?_)) <;> try (exfalso; omega)
      | (with_reducible refine CondX.beq (fun c => ?_) (fun c => ?_)) <;> try (exfalso; omega)
      | (with_reducible refine CondX.bne (fun c => ?_) (fun c => ?_)) <;> try (exfalso; omega)
      | (with_reducible refine CondX.bool (fun c => ?_) (fun c => ?_)) <;> try (exfalso; omega)
      | simp only [go_sem, I_eq, I_cells, Frm.at f2, Frm.at f1, Frm.at f0, Nat.reduceAdd, Nat.reduceBEq, Nat.reduceEqDiff, Nat.reduceLeDiff, Nat.reduceLT, Nat.reduceSub]
      | simp (disch := omega) only [wrap_in, toNat_succ, toNat_pred, Int.toNat_natCast]
      | with_reducible refine And.intro (by omega) ?_
      | with_reducible refine exI (by omega) ?_
      | fail
    refine awp_countF [(6, 6), (13, 15), (17, 17), (82, 157)] (by kernel_rfl) 82 81 (by kernel_rfl) ps.length (by omega) (fun i t => (∀ u, u < i → ∀ v, v < ps.length → pairR ps ss obj u v = true) ∧ Keeps h t.hp) ?_ ?_ ?_ ?_ ?_
    · simp only [go_sem, I_eq, I_cells, Nat.reduceAdd, Nat.reduceBEq, Nat.reduceEqDiff, Nat.reduceLeDiff, Nat.reduceLT, Nat.reduceSub]
    · simp only [go_sem, I_eq, I_cells, Nat.reduceAdd, Nat.reduceBEq, Nat.reduceEqDiff, Nat.reduceLeDiff, Nat.reduceLT, Nat.reduceSub]
    · simp only [go_sem, I_eq, I_cells, Nat.reduceAdd, Nat.reduceBEq, Nat.reduceEqDiff, Nat.reduceLeDiff, Nat.reduceLT, Nat.reduceSub]
      exact ⟨fun u hu => by omega, gK⟩
    · clear gK
      rintro i t hlt d2 hw f3 g82 g81 ⟨hi, gK⟩
      repeat' first
        | (with_reducible refine CondX.dec (fun c => ?_) (fun c => ?_)) <;> try (exfalso; omega)
        | (with_reducible refine CondX.beq (fun c => ?_) (fun c => ?_)) <;> try (exfalso; omega)
        | (with_reducible refine CondX.bne (fun c => ?_) (fun c => ?_)) <;> try (exfalso; omega)
        | (with_reducible refine CondX.bool (fun c => ?_) (fun c => ?_)) <;> try (exfalso; omega)
        | simp only [go_sem, I_eq, I_cells, Frm.at f3, Frm.at f2, Frm.at f1, Frm.at f0, g81, g82, d2, hw, Nat.reduceAdd, Nat.reduceBEq, Nat.reduceEqDiff, Nat.reduceLeDiff, Nat.reduceLT, Nat.reduceSub]
        | simp (disch := omega) only [wrap_in, toNat_succ, toNat_pred, Int.toNat_natCast]
        | with_reducible refine And.intro (by omega) ?_
        | with_reducible refine exI (by omega) ?_
        | fail
      refine awp_countF [(6, 6), (14, 15), (17, 17), (87, 156)] (by kernel_rfl) 87 86 (by kernel_rfl) ps.length (by omega) (fun j t => (∀ v, v < j → pairR ps ss obj i v = true) ∧ Keeps h t.hp) ?_ ?_ ?_ ?_ ?_
      · simp only [go_sem, I_eq, I_cells, Nat.reduceAdd, Nat.reduceBEq, Nat.reduceEqDiff, Nat.reduceLeDiff, Nat.reduceLT, Nat.reduceSub]
      · simp only [go_sem, I_eq, I_cells, Nat.reduceAdd, Nat.reduceBEq, Nat.reduceEqDiff, Nat.reduceLeDiff, Nat.reduceLT, Nat.reduceSub]
      · simp only [go_sem, I_eq, I_cells, Nat.reduceAdd, Nat.reduceBEq, Nat.reduceEqDiff, Nat.reduceLeDiff, Nat.reduceLT, Nat.reduceSub]
        exact ⟨fun u hu => by omega, gK⟩
      · clear gK
        rintro j t2 hlj d3 hw2 f4 g87 g86 ⟨hj, gK⟩
        have hu : hasN ps i = true := by simp [hasN, hlt]
        have hv : hasN ps j = true := by simp [hasN, hlj]
        have hla : i < ss.length := by omega
        have hlb : j < ss.length := by omega
        obtain ⟨ja, jao⟩ := hown i hla
        obtain ⟨jb, jbo⟩ := hown j hlb
        have next : pairR ps ss obj i j = true → ∀ v, v < j + 1 → pairR ps ss obj i v = true := fun h1 v h2 => by
          by_cases he : v = j
          · subst he; exact h1
          · exact hj v (by omega)
        obtain ⟨o0, ho0⟩ : ∃ x, (if (ownO obj ss[i]).arrow = (j : Int) then 1 else 0) + (if (ownO obj ss[j]).arrow = (i : Int) then 1 else 0) = x := ⟨_, rfl⟩
        have ho2 : o0 ≤ 2 := by rw [← ho0]; split <;> split <;> omega
        have eov : overR ps ss obj i j = o0 + cntM 1 obj (leftR ps ss i j ++ leftR ps ss j i) := by
          unfold overR overL
          rw [at0_at (by simpa using hla), at0_at (by simpa using hlb)]
          simp only [Int.toNat_natCast, ho0]
        have hoff : ¬ (i < j ∧ nearB ps i j = true) → pairR ps ss obj i j = true := fun h1 => by
          unfold pairR
          have : (decide (i < j) && nearB ps i j) = false := by
            rw [Bool.eq_false_iff]; intro h2; simp only [Bool.and_eq_true, decide_eq_true_eq] at h2; exact h1 h2
          rw [this]; rfl
        have b1 := hb i j
        have b2 := hb j i
        repeat' first
          | (with_reducible refine CondX.dec (fun c => ?_) (fun c => ?_)) <;> try (exfalso; omega)
          | (with_reducible refine CondX.beq (fun c => ?_) (fun c => ?_)) <;> try (exfalso; omega)
          | (with_reducible refine CondX.bne (fun c => ?_) (fun c => ?_)) <;> try (exfalso; omega)
          | (with_reducible refine CondX.bool (fun c => ?_) (fun c => ?_)) <;> try (exfalso; omega)
          | ((with_reducible refine CallX.id ?_); first | refine CallX.pure (ref_Near_spec ps e1 i j hu hv) ?_ | refine CallX.of (CallK.ofOwn (ref_Left_own _ ps e1 e2 ss _ _ hln hek) ?_))
          | simp only [go_sem, I_eq, I_cells, Frm.at f4, Frm.at f3, Frm.at f2, Frm.at f1, Frm.at f0, g86, g87, d3, hw2, encS_cells, encO_cells, encO, jao, jbo, Nat.reduceAdd, Nat.reduceBEq, Nat.reduceEqDiff, Nat.reduceLeDiff, Nat.reduceLT, Nat.reduceSub]
          | simp (disch := omega) only [wrap_in, toNat_succ, toNat_pred, Int.toNat_natCast]
          | with_reducible refine And.intro (by omega) ?_
          | with_reducible refine exI (by omega) ?_
          | fail
        all_goals first
          | exact ⟨next (hoff fun x => absurd x.1 (by omega)), gK⟩
          | exact ⟨next (hoff fun x => by have h9 := x.2; rw [c] at h9; cases h9), gK⟩
          | skip
        all_goals (
          rename_i c2 c1 c0
          intro v1 H1 a1 k1
          first | rw [if_pos c0] at ho0 | rw [if_neg c0] at ho0
          first | rw [if_pos c] at ho0 | rw [if_neg c] at ho0
          repeat' first
            | (with_reducible refine CondX.dec (fun c => ?_) (fun c => ?_)) <;> try (exfalso; omega)
            | (with_reducible refine CondX.beq (fun c => ?_) (fun c => ?_)) <;> try (exfalso; omega)
            | (with_reducible refine CondX.bne (fun c => ?_) (fun c => ?_)) <;> try (exfalso; omega)
            | (with_reducible refine CondX.bool (fun c => ?_) (fun c => ?_)) <;> try (exfalso; omega)
            | ((with_reducible refine CallX.id ?_); first | refine CallX.pure (ref_Left_spec ps e1 e2 ss _ _ hln hek) ?_)
            | simp only [go_sem, I_eq, I_cells, rowM, Nat.reduceAdd, Nat.reduceBEq, Nat.reduceEqDiff, Nat.reduceLeDiff, Nat.reduceLT, Nat.reduceSub]
            | simp (disch := omega) only [wrap_in, toNat_succ, toNat_pred, Int.toNat_natCast]
            | with_reducible refine And.intro (by omega) ?_
            | with_reducible refine exI (by omega) ?_
            | fail
          refine a1.app k1 (by simp; omega) (by simp; omega) (by decide) fun H' v' a' kp' fr1 fr2 ev => ?_
          subst ev
          obtain ⟨hc, -⟩ := a'.own'
          have kk := gK.trans kp'
          rw [← List.map_append] at hc
          obtain ⟨ms, hms⟩ : ∃ ms, leftR ps ss i j ++ leftR ps ss j i = ms := ⟨_, rfl⟩
          have hml : ms.length ≤ 65536 := by rw [← hms, List.length_append]; omega
          have hc9 : cntM 1 obj ms ≤ ms.length := List.countP_le_length
          rw [hms] at hc eov
          clear fr1 fr2 a'
          repeat' first
            | (with_reducible refine CondX.dec (fun c => ?_) (fun c => ?_)) <;> try (exfalso; omega)
            | (with_reducible refine CondX.beq (fun c => ?_) (fun c => ?_)) <;> try (exfalso; omega)
            | (with_reducible refine CondX.bne (fun c => ?_) (fun c => ?_)) <;> try (exfalso; omega)
            | (with_reducible refine CondX.bool (fun c => ?_) (fun c => ?_)) <;> try (exfalso; omega)
            | simp only [go_sem, I_eq, I_cells, hc, Nat.reduceAdd, Nat.reduceBEq, Nat.reduceEqDiff, Nat.reduceLeDiff, Nat.reduceLT, Nat.reduceSub]
            | simp (disch := omega) only [wrap_in, toNat_succ, toNat_pred, Int.toNat_natCast]
            | with_reducible refine And.intro (by omega) ?_
            | with_reducible refine exI (by omega) ?_
            | fail
          refine awp_countF [(15, 15), (17, 17), (138, 153)] (by kernel_rfl) 138 137 (by kernel_rfl) ms.length (by omega) (fun k t => (∃ z : Nat, t.slots 15 = .int .i64 z ∧ z + cntM 1 obj (ms.drop k) = o0 + cntM 1 obj ms) ∧ t.hp.con ⟨29, 136, H1.cnt 29 136⟩ = .arr 5 (ms.map encM) ∧ Keeps h t.hp) ?_ ?_ ?_ ?_ ?_
          · simp only [go_sem, I_eq, I_cells, Nat.reduceAdd, Nat.reduceBEq, Nat.reduceEqDiff, Nat.reduceLeDiff, Nat.reduceLT, Nat.reduceSub]
          · simp only [go_sem, I_eq, I_cells, Nat.reduceAdd, Nat.reduceBEq, Nat.reduceEqDiff, Nat.reduceLeDiff, Nat.reduceLT, Nat.reduceSub]
          · simp only [go_sem, I_eq, I_cells, hc, Nat.reduceAdd, Nat.reduceBEq, Nat.reduceEqDiff, Nat.reduceLeDiff, Nat.reduceLT, Nat.reduceSub]
            exact ⟨⟨o0, by subst ho0; simp, rfl⟩, kk⟩
          · clear kk hc kp'
            rintro k t3 hlk d4 hw3 f5 g138 g137 ⟨⟨z, g15, hz⟩, hc, kk⟩
            rw [drop_cons hlk, cntM_cons] at hz
            repeat' first
              | (with_reducible refine CondX.dec (fun c => ?_) (fun c => ?_)) <;> try (exfalso; omega)
              | (with_reducible refine CondX.beq (fun c => ?_) (fun c => ?_)) <;> try (exfalso; omega)
              | (with_reducible refine CondX.bne (fun c => ?_) (fun c => ?_)) <;> try (exfalso; omega)
              | (with_reducible refine CondX.bool (fun c => ?_) (fun c => ?_)) <;> try (exfalso; omega)
              | simp only [go_sem, I_eq, I_cells, Frm.at f5, Frm.at f4, Frm.at f3, Frm.at f2, Frm.at f1, Frm.at f0, g15, g137, g138, d4, hw3, hc, encM, encM_cells, Nat.reduceAdd, Nat.reduceBEq, Nat.reduceEqDiff, Nat.reduceLeDiff, Nat.reduceLT, Nat.reduceSub]
              | simp (disch := omega) only [wrap_in, toNat_succ, toNat_pred, Int.toNat_natCast]
              | with_reducible refine And.intro (by omega) ?_
              | with_reducible refine exI (by omega) ?_
              | fail
            · rw [if_pos (by omega)] at hz
              exact ⟨⟨z + 1, by simp, by omega⟩, by ((repeat first | with_reducible apply Keeps.alloc | (with_reducible refine Keeps.set ?_ ?hL _; case hL => first | assumption | exact Hp.ok _ _ (by simp) | exact Keeps.new (by assumption) _ _)); first | assumption | exact Keeps.refl _)⟩
            · rw [if_neg (by omega)] at hz
              exact ⟨⟨z, rfl, by omega⟩, by ((repeat first | with_reducible apply Keeps.alloc | (with_reducible refine Keeps.set ?_ ?hL _; case hL => first | assumption | exact Hp.ok _ _ (by simp) | exact Keeps.new (by assumption) _ _)); first | assumption | exact Keeps.refl _)⟩
            · rw [if_neg (by omega)] at hz
              exact ⟨⟨z, rfl, by omega⟩, by ((repeat first | with_reducible apply Keeps.alloc | (with_reducible refine Keeps.set ?_ ?hL _; case hL => first | assumption | exact Hp.ok _ _ (by simp) | exact Keeps.new (by assumption) _ _)); first | assumption | exact Keeps.refl _)⟩
          · clear kk hc kp'
            rintro t3 d4 f5 g138 g137 ⟨⟨z, g15, hz⟩, hc, kk⟩
            rw [List.drop_length, show cntM 1 obj [] = 0 from rfl] at hz
            repeat' first
              | (with_reducible refine CondX.dec (fun c => ?_) (fun c => ?_)) <;> try (exfalso; omega)
              | (with_reducible refine CondX.beq (fun c => ?_) (fun c => ?_)) <;> try (exfalso; omega)
              | (with_reducible refine CondX.bne (fun c => ?_) (fun c => ?_)) <;> try (exfalso; omega)
              | (with_reducible refine CondX.bool (fun c => ?_) (fun c => ?_)) <;> try (exfalso; omega)
              | simp only [go_sem, I_eq, I_cells, Frm.at f5, Frm.at f4, Frm.at f3, Frm.at f2, Frm.at f1, Frm.at f0, g15, g137, g138, g86, g87, d4, hw2, Nat.reduceAdd, Nat.reduceBEq, Nat.reduceEqDiff, Nat.reduceLeDiff, Nat.reduceLT, Nat.reduceSub]
              | simp (disch := omega) only [wrap_in, toNat_succ, toNat_pred, Int.toNat_natCast]
              | with_reducible refine And.intro (by omega) ?_
              | with_reducible refine exI (by omega) ?_
              | fail
            all_goals first
              | (refine ⟨next ?_, kk⟩
                 unfold pairR
                 rw [eov, beq_iff_eq.2 (show o0 + cntM 1 obj ms = 1 by omega), Bool.or_true])
              | (have hE2 : E = false := by
                   cases he : edgesR ps ss obj
                   · rw [← hE, he]
                   · have hp := edgesR_iff.1 he i hlt j hlj
                     unfold pairR at hp
                     rw [eov, c1, beq_eq_false_iff_ne.2 (show o0 + cntM 1 obj ms ≠ 1 by omega), decide_eq_true (show i < j by omega)] at hp
                     cases hp
                 exact ⟨by rw [hE2]; rfl, kk⟩))
      · clear gK
        rintro t2 d3 f4 g87 g86 ⟨hj, gK⟩
        repeat' first
          | (with_reducible refine CondX.dec (fun c => ?_) (fun c => ?_)) <;> try (exfalso; omega)
          | (with_reducible refine CondX.beq (fun c => ?_) (fun c => ?_)) <;> try (exfalso; omega)
          | (with_reducible refine CondX.bne (fun c => ?_) (fun c => ?_)) <;> try (exfalso; omega)
          | (with_reducible refine CondX.bool (fun c => ?_) (fun c => ?_)) <;> try (exfalso; omega)
          | simp only [go_sem, I_eq, I_cells, Frm.at f4, Frm.at f3, Frm.at f2, Frm.at f1, Frm.at f0, g86, g87, g81, g82, d3, hw, Nat.reduceAdd, Nat.reduceBEq, Nat.reduceEqDiff, Nat.reduceLeDiff, Nat.reduceLT, Nat.reduceSub]
          | simp (disch := omega) only [wrap_in, toNat_succ, toNat_pred, Int.toNat_natCast]
          | with_reducible refine And.intro (by omega) ?_
          | with_reducible refine exI (by omega) ?_
          | fail
        exact ⟨fun u h1 v h2 => by by_cases he : u = i; exact he ▸ hj v h2; exact hi u (by omega) v h2, gK⟩
    · rintro t d2 f3 g82 g81 ⟨hi, gK⟩
      repeat' first
        | (with_reducible refine CondX.dec (fun c => ?_) (fun c => ?_)) <;> try (exfalso; omega)
        | (with_reducible refine CondX.beq (fun c => ?_) (fun c => ?_)) <;> try (exfalso; omega)
        | (with_reducible refine CondX.bne (fun c => ?_) (fun c => ?_)) <;> try (exfalso; omega)
        | (with_reducible refine CondX.bool (fun c => ?_) (fun c => ?_)) <;> try (exfalso; omega)
        | simp only [go_sem, I_eq, I_cells, Frm.at f3, Frm.at f2, Frm.at f1, Frm.at f0, g81, g82, d2, Nat.reduceAdd, Nat.reduceBEq, Nat.reduceEqDiff, Nat.reduceLeDiff, Nat.reduceLT, Nat.reduceSub]
        | simp (disch := omega) only [wrap_in, toNat_succ, toNat_pred, Int.toNat_natCast]
        | with_reducible refine And.intro (by omega) ?_
        | with_reducible refine exI (by omega) ?_
        | fail
      exact ⟨by rw [← hE]; exact edgesR_iff.2 hi, gK⟩
  clear gK
  rintro s3 f3 ⟨eE, gK⟩
  subst eE
  have hwF : IntKind.i64.wrap (1 + (F : Int)) = 1 + (F : Int) := IntWalk.i64_in _ (by omega)
  refine awp_cutF [(6, 6), (158, 164)] (by kernel_rfl) (fun s => S = 1 + F ∧ Keeps h s.hp) ?_ ?_
  · repeat' first
      | (with_reducible refine CondX.dec (fun c => ?_) (fun c => ?_)) <;> try (exfalso; omega)
      | (with_reducible refine CondX.beq (fun c => ?_) (fun c => ?_)) <;> try (exfalso; omega)
      | (with_reducible refine CondX.bne (fun c => ?_) (fun c => ?_)) <;> try (exfalso; omega)
      | (with_reducible refine CondX.bool (fun c => ?_) (fun c => ?_)) <;> try (exfalso; omega)
      | ((with_reducible refine CallX.id ?_); first | refine CallX.pure (cs1) ?_)
      | simp only [go_sem, I_eq, I_cells, Frm.at f3, Frm.at f2, Frm.at f1, Frm.at f0, g8, hwF, Nat.reduceAdd, Nat.reduceBEq, Nat.reduceEqDiff, Nat.reduceLeDiff, Nat.reduceLT, Nat.reduceSub]
      | simp (disch := omega) only [wrap_in, toNat_succ, toNat_pred, Int.toNat_natCast]
      | with_reducible refine And.intro (by omega) ?_
      | with_reducible refine exI (by omega) ?_
      | fail
    · exact ⟨by unfold lawOf; rw [if_neg (by omega), if_neg (by simp), if_pos (by omega)], gK⟩
    · first | exact gK | exact ⟨by omega, gK⟩
  clear gK
  rintro s4 f4 ⟨eS, gK⟩
  subst eS
  have hl2 : lawOf 1 true (1 + F) F H = if H = false then 5 else 0 := by unfold lawOf; rw [if_neg (by omega), if_neg (by simp), if_neg (by omega)]
  rw [hl2]
  refine awp_cutF [(6, 6), (18, 19), (21, 21), (165, 197)] (by kernel_rfl) (fun s => H = true ∧ Keeps h s.hp) ?_ ?_
  · repeat' first
      | (with_reducible refine CondX.dec (fun c => ?_) (fun c => ?_)) <;> try (exfalso; omega)
      | (with_reducible refine CondX.beq (fun c => ?_) (fun c => ?_)) <;> try (exfalso; omega)
      | (with_reducible refine CondX.bne (fun c => ?_) (fun c => ?_)) <;> try (exfalso; omega)
      | (with_reducible refine CondX.bool (fun c => ?_) (fun c => ?_)) <;> try (exfalso; omega)
      | simp only [go_sem, I_eq, I_cells, Frm.at f4, Frm.at f3, Frm.at f2, Frm.at f1, Frm.at f0, Nat.reduceAdd, Nat.reduceBEq, Nat.reduceEqDiff, Nat.reduceLeDiff, Nat.reduceLT, Nat.reduceSub]
      | simp (disch := omega) only [wrap_in, toNat_succ, toNat_pred, Int.toNat_natCast]
      | with_reducible refine And.intro (by omega) ?_
      | with_reducible refine exI (by omega) ?_
      | fail
    refine awp_countF [(6, 6), (18, 19), (21, 21), (167, 197)] (by kernel_rfl) 167 166 (by kernel_rfl) ss.length (by omega) (fun i t => heirB T obj i (ss.drop i) = H ∧ Keeps h t.hp) ?_ ?_ ?_ ?_ ?_
    · simp only [go_sem, I_eq, I_cells, Nat.reduceAdd, Nat.reduceBEq, Nat.reduceEqDiff, Nat.reduceLeDiff, Nat.reduceLT, Nat.reduceSub]
    · simp only [go_sem, I_eq, I_cells, Nat.reduceAdd, Nat.reduceBEq, Nat.reduceEqDiff, Nat.reduceLeDiff, Nat.reduceLT, Nat.reduceSub]
    · simp only [go_sem, I_eq, I_cells, Nat.reduceAdd, Nat.reduceBEq, Nat.reduceEqDiff, Nat.reduceLeDiff, Nat.reduceLT, Nat.reduceSub]
      exact ⟨hH, gK⟩
    · clear gK
      rintro i t hlt d2 hw f5 g167 g166 ⟨eH, gK⟩
      obtain ⟨hj, hjo⟩ := hown i hlt
      rw [drop_cons hlt, heirB] at eH
      have hcl := hfc _ (List.getElem_mem hlt)
      obtain ⟨o, hoo⟩ : ∃ o, ownO obj ss[i] = o := ⟨_, rfl⟩
      rw [hoo] at hjo hcl eH
      obtain ⟨rH, hrH⟩ : ∃ x, heirB T obj (i + 1) (ss.drop (i + 1)) = x := ⟨_, rfl⟩
      rw [hrH] at eH
      repeat' first
        | (with_reducible refine CondX.dec (fun c => ?_) (fun c => ?_)) <;> try (exfalso; omega)
        | (with_reducible refine CondX.beq (fun c => ?_) (fun c => ?_)) <;> try (exfalso; omega)
        | (with_reducible refine CondX.bne (fun c => ?_) (fun c => ?_)) <;> try (exfalso; omega)
        | (with_reducible refine CondX.bool (fun c => ?_) (fun c => ?_)) <;> try (exfalso; omega)
        | simp only [go_sem, I_eq, I_cells, Frm.at f5, Frm.at f4, Frm.at f3, Frm.at f2, Frm.at f1, Frm.at f0, g166, g167, d2, hw, encS_cells, encO_cells, hjo, encO, Nat.reduceAdd, Nat.reduceBEq, Nat.reduceEqDiff, Nat.reduceLeDiff, Nat.reduceLT, Nat.reduceSub]
        | simp (disch := omega) only [wrap_in, toNat_succ, toNat_pred, Int.toNat_natCast]
        | with_reducible refine And.intro (by omega) ?_
        | with_reducible refine exI (by omega) ?_
        | fail
      refine awp_countF [(6, 6), (21, 21), (179, 196)] (by kernel_rfl) 179 178 (by kernel_rfl) o.cells.length (by omega) (fun j t => (heirC T i (o.cells.drop j) && rH) = H ∧ Keeps h t.hp) ?_ ?_ ?_ ?_ ?_
      · simp only [go_sem, I_eq, I_cells, Nat.reduceAdd, Nat.reduceBEq, Nat.reduceEqDiff, Nat.reduceLeDiff, Nat.reduceLT, Nat.reduceSub]
      · simp only [go_sem, I_eq, I_cells, Nat.reduceAdd, Nat.reduceBEq, Nat.reduceEqDiff, Nat.reduceLeDiff, Nat.reduceLT, Nat.reduceSub]
      · simp only [go_sem, I_eq, I_cells, Nat.reduceAdd, Nat.reduceBEq, Nat.reduceEqDiff, Nat.reduceLeDiff, Nat.reduceLT, Nat.reduceSub]
        exact ⟨eH, by ((repeat first | with_reducible apply Keeps.alloc | (with_reducible refine Keeps.set ?_ ?hL _; case hL => first | assumption | exact Hp.ok _ _ (by simp) | exact Keeps.new (by assumption) _ _)); first | assumption | exact Keeps.refl _)⟩
      · clear gK eH
        rintro j t2 hlj d3 hw2 f6 g179 g178 ⟨eH, gK⟩
        rw [drop_cons hlj, heirC_cons] at eH
        have hts := ref_told_spec ps e1 e2 ss obj i o.cells[j].num hln hps.2 hek hown hfc ho.1 (by omega)
        rw [hTq] at hts
        repeat' first
          | (with_reducible refine CondX.dec (fun c => ?_) (fun c => ?_)) <;> try (exfalso; omega)
          | (with_reducible refine CondX.beq (fun c => ?_) (fun c => ?_)) <;> try (exfalso; omega)
          | (with_reducible refine CondX.bne (fun c => ?_) (fun c => ?_)) <;> try (exfalso; omega)
          | (with_reducible refine CondX.bool (fun c => ?_) (fun c => ?_)) <;> try (exfalso; omega)
          | ((with_reducible refine CallX.id ?_); first | refine CallX.pure (hts) ?_)
          | simp only [go_sem, I_eq, I_cells, Frm.at f6, Frm.at f5, Frm.at f4, Frm.at f3, Frm.at f2, Frm.at f1, Frm.at f0, g178, g179, d3, hw2, encC, encC_cells, Nat.reduceAdd, Nat.reduceBEq, Nat.reduceEqDiff, Nat.reduceLeDiff, Nat.reduceLT, Nat.reduceSub]
          | simp (disch := omega) only [wrap_in, toNat_succ, toNat_pred, Int.toNat_natCast]
          | with_reducible refine And.intro (by omega) ?_
          | with_reducible refine exI (by omega) ?_
          | fail
        · rename_i c0
          have ht : T ((i : Int), o.cells[j].num) ≠ 1 := by omega
          have hH0 : H = false := by rw [← eH]; simp [c0, ht]
          exact ⟨by rw [hH0]; rfl, by ((repeat first | with_reducible apply Keeps.alloc | (with_reducible refine Keeps.set ?_ ?hL _; case hL => first | assumption | exact Hp.ok _ _ (by simp) | exact Keeps.new (by assumption) _ _)); first | assumption | exact Keeps.refl _)⟩
        · rename_i c0
          have ht : T ((i : Int), o.cells[j].num) = 1 := by omega
          exact ⟨by rw [← eH]; simp [c0, ht], by ((repeat first | with_reducible apply Keeps.alloc | (with_reducible refine Keeps.set ?_ ?hL _; case hL => first | assumption | exact Hp.ok _ _ (by simp) | exact Keeps.new (by assumption) _ _)); first | assumption | exact Keeps.refl _)⟩
        · exact ⟨by rw [← eH, beq_eq_false_iff_ne.2 c]; rfl, by ((repeat first | with_reducible apply Keeps.alloc | (with_reducible refine Keeps.set ?_ ?hL _; case hL => first | assumption | exact Hp.ok _ _ (by simp) | exact Keeps.new (by assumption) _ _)); first | assumption | exact Keeps.refl _)⟩
      · clear gK eH
        rintro t2 d3 f6 g179 g178 ⟨eH, gK⟩
        rw [List.drop_length] at eH
        repeat' first
          | (with_reducible refine CondX.dec (fun c => ?_) (fun c => ?_)) <;> try (exfalso; omega)
          | (with_reducible refine CondX.beq (fun c => ?_) (fun c => ?_)) <;> try (exfalso; omega)
          | (with_reducible refine CondX.bne (fun c => ?_) (fun c => ?_)) <;> try (exfalso; omega)
          | (with_reducible refine CondX.bool (fun c => ?_) (fun c => ?_)) <;> try (exfalso; omega)
          | simp only [go_sem, I_eq, I_cells, Frm.at f6, Frm.at f5, Frm.at f4, Frm.at f3, Frm.at f2, Frm.at f1, Frm.at f0, g178, g179, g166, g167, d3, hw, Nat.reduceAdd, Nat.reduceBEq, Nat.reduceEqDiff, Nat.reduceLeDiff, Nat.reduceLT, Nat.reduceSub]
          | simp (disch := omega) only [wrap_in, toNat_succ, toNat_pred, Int.toNat_natCast]
          | with_reducible refine And.intro (by omega) ?_
          | with_reducible refine exI (by omega) ?_
          | fail
        first | exact ⟨by rw [hrH, ← eH]; rfl, gK⟩ | (rw [hrH, ← eH]; rfl)
    · rintro t d2 f5 g167 g166 ⟨eH, gK⟩
      rw [List.drop_length] at eH
      repeat' first
        | (with_reducible refine CondX.dec (fun c => ?_) (fun c => ?_)) <;> try (exfalso; omega)
        | (with_reducible refine CondX.beq (fun c => ?_) (fun c => ?_)) <;> try (exfalso; omega)
        | (with_reducible refine CondX.bne (fun c => ?_) (fun c => ?_)) <;> try (exfalso; omega)
        | (with_reducible refine CondX.bool (fun c => ?_) (fun c => ?_)) <;> try (exfalso; omega)
        | simp only [go_sem, I_eq, I_cells, Frm.at f5, g166, g167, d2, Nat.reduceAdd, Nat.reduceBEq, Nat.reduceEqDiff, Nat.reduceLeDiff, Nat.reduceLT, Nat.reduceSub]
        | simp (disch := omega) only [wrap_in, toNat_succ, toNat_pred, Int.toNat_natCast]
        | with_reducible refine And.intro (by omega) ?_
        | with_reducible refine exI (by omega) ?_
        | fail
      exact ⟨by rw [← eH]; rfl, gK⟩
  clear gK
  rintro s5 f5 ⟨eH, gK⟩
  subst eH
  repeat' first
    | (with_reducible refine CondX.dec (fun c => ?_) (fun c => ?_)) <;> try (exfalso; omega)
    | (with_reducible refine CondX.beq (fun c => ?_) (fun c => ?_)) <;> try (exfalso; omega)
    | (with_reducible refine CondX.bne (fun c => ?_) (fun c => ?_)) <;> try (exfalso; omega)
    | (with_reducible refine CondX.bool (fun c => ?_) (fun c => ?_)) <;> try (exfalso; omega)
    | simp only [go_sem, I_eq, I_cells, Frm.at f5, Nat.reduceAdd, Nat.reduceBEq, Nat.reduceEqDiff, Nat.reduceLeDiff, Nat.reduceLT, Nat.reduceSub]
    | simp (disch := omega) only [wrap_in, toNat_succ, toNat_pred, Int.toNat_natCast]
    | with_reducible refine And.intro (by omega) ?_
    | with_reducible refine exI (by omega) ?_
    | fail
  exact gK
theorem ref_Law_spec (ps : List Int) (e1 e2 : Bool) (ss : List Nst) (obj : Int) (hok : TreeOk ps) (hs : ∀ s ∈ ss, Sized s) : PureF Try.prog 29 [.l e1 1 (ps.map I), .l e2 6 (ss.map encS), .int .i64 obj] (.int .i64 (lawR ps ss obj)) := by
  have hps := hok.len
  by_cases hc : fitR ps ss = true ∧ 0 ≤ obj ∧ obj < objN ss
  · exact ref_Law_fit ps e1 e2 ss obj hok hs (by rw [fit_eq hok]; exact hc.1) hc.2
  · have : lawR ps ss obj = 1 := by
      unfold lawR
      rw [if_neg]
      simp only [Bool.and_eq_true, decide_eq_true_eq]
      exact fun h => hc ⟨h.1.1, h.1.2, h.2⟩
    rw [this]
    exact ref_Law_out ps e1 e2 ss obj (by omega) hs hc
theorem Law_spec (ps : List Int) (ss : List Nst) (ex : Bool) (obj : Int) (hok : TreeOk ps) (hs : ∀ s ∈ ss, Sized s) : PureF Try.prog 28 [treeV ps, .l ex 6 (ss.map encS), .int .i64 obj] (.int .i64 (lawR ps ss obj)) := by
  have hps := hok.len
  rw [← law_eq hok]
  by_cases hf : fitB ps ss = true
  · have hl := (fit_at hf).1
    by_cases ho : 0 ≤ obj ∧ obj < objN ss
    · exact Law_fit ps ss ex obj hok hs hf ho
    · have : lawL ps ss obj = 1 := by
        unfold lawL
        rw [if_neg]
        simp only [Bool.and_eq_true, decide_eq_true_eq]
        exact fun h => ho ⟨h.1.2, h.2⟩
      rw [this]
      by_cases hk : objN ss ≤ 8
      · exact Law_out ps ss ex obj (by omega) hs hf (by omega) hk ho
      · exfalso
        have h1 := (fit_at hf).2 0 (by omega)
        have h2 := (Fine.of h1.2.1).k8
        omega
  · have hf' : fitB ps ss = false := by simpa using hf
    have : lawL ps ss obj = 1 := by unfold lawL; rw [hf']; rfl
    rw [this]
    exact Law_unfit ps ss ex obj (by omega) hs hf'
end Go.Proofs.Ytmajndgdfmnchaa
