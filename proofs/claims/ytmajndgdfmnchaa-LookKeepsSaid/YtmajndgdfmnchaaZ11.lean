/- Part of a proof: what functions of the given program compute, and plain laws of it. -/
import Derived.Test.YtmajndgdfmnchaaZ10
import Derived.Test.YtmajndgdfmnchaaT4
/- The reference's states: what can be. -/
namespace Go.Gh
def nearB (ps : List Int) (a b : Int) : Bool := ps.getD a.toNat 0 == b || ps.getD b.toNat 0 == a
def refN (ps : List Int) (v : Int) (n : Nat) : List Int := ((List.range n).filter fun u : Nat => nearB ps u v).map fun u : Nat => (u : Int)
def refNbr (ps : List Int) (v : Int) : List Int := if hasN ps v then refN ps v ps.length else []
theorem refN_succ (ps : List Int) (v : Int) (n : Nat) : refN ps v (n + 1) = if nearB ps n v then refN ps v n ++ [(n : Int)] else refN ps v n := by
  unfold refN
  rw [List.range_succ, List.filter_append]
  cases hn : nearB ps n v <;> simp [hn]
theorem refN_len (ps : List Int) (v : Int) (n : Nat) : (refN ps v n).length ≤ n := by
  unfold refN; rw [List.length_map]; exact Nat.le_trans (List.length_filter_le _ _) (by simp)
def ownR (n : Int) (near : List Int) (me : Int) (o : Own) : Bool :=
  (o.arrow == me || decide (o.arrow ∈ near)) && decide (0 ≤ o.made ∧ o.made ≤ 1099511627776) && goodC o.cells me (o.arrow == me) && o.cells.all (fun c => decide (c.num ≤ o.made) && decide (c.node < n))
def asksR (k asked : Int) : Option Int → List Ask → Bool
  | _, [] => true
  | p, a :: r => decide (0 ≤ a.obj ∧ a.obj < k) && decide (1 ≤ a.num ∧ a.num ≤ asked) && (match p with | none => true | some q => decide (q < a.num)) && asksR k asked (some a.num) r
theorem asksR_cons (k asked : Int) (p : Option Int) (a : Ask) (r : List Ask) : asksR k asked p (a :: r) = (decide (0 ≤ a.obj ∧ a.obj < k) && decide (1 ≤ a.num ∧ a.num ≤ asked) && (match p with | none => true | some q => decide (q < a.num)) && asksR k asked (some a.num) r) := rfl
def foundR (n k asked : Int) (f : Found) : Bool := decide (0 ≤ f.obj ∧ f.obj < k) && decide (1 ≤ f.num ∧ f.num ≤ asked) && decide (0 ≤ f.where' ∧ f.where' < n)
def goodR (ps : List Int) (s : Nst) : Bool :=
  decide (0 ≤ s.me ∧ s.me < ps.length) && decide (1 ≤ s.objs.length ∧ s.objs.length ≤ 8) && s.objs.all (ownR ps.length (refNbr ps s.me) s.me) &&
    (s.edges.length == (refNbr ps s.me).length) && ((refNbr ps s.me).zip s.edges).all (edgeB ps.length s.objs.length) && (decide (0 ≤ s.asked ∧ s.asked ≤ 1099511627776) && decide (s.asks.length ≤ 4) && decide (s.got.length ≤ 4)) &&
    asksR s.objs.length s.asked none s.asks && s.got.all (foundR ps.length s.objs.length s.asked) && decide (openS s.objs ≤ 8)
end Go.Gh
namespace Go.Proofs.Ytmajndgdfmnchaa
open Go Go.T Go.Gh Go.Proofs
set_option linter.unusedSimpArgs false
set_option maxRecDepth 10000
set_option maxHeartbeats 4000000
theorem ref_Near_spec (ps : List Int) (e : Bool) (a b : Int) (ha : hasN ps a = true) (hb : hasN ps b = true) : PureF Try.prog 59 [.l e 1 (ps.map I), .int .i64 a, .int .i64 b] (.bool (nearB ps a b)) := by
  refine PureF.of_awp mixed (fun _ => []) (fn := Try.f59) (by kernel_rfl) rfl (by kernel_rfl) (by show 3 ≤ _; decide) (by simp [AV.lf]) (fun h => ?_)
  simp only [hasN, decide_eq_true_eq] at ha hb
  have ea : ps.getD a.toNat 0 = ps[a.toNat] := idx_at (by omega)
  have eb : ps.getD b.toNat 0 = ps[b.toNat] := idx_at (by omega)
  repeat' first
    | (with_reducible refine CondX.dec (fun c => ?_) (fun c => ?_)) <;> try (exfalso; omega)
    | (with_reducible refine CondX.beq (fun c => ?_) (fun c => ?_)) <;> try (exfalso; omega)
    | (with_reducible refine CondX.bne (fun c => ?_) (fun c => ?_)) <;> try (exfalso; omega)
    | (with_reducible refine CondX.bool (fun c => ?_) (fun c => ?_)) <;> try (exfalso; omega)
    | simp only [go_sem, I_eq, I_cells, Nat.reduceAdd, Nat.reduceBEq, Nat.reduceEqDiff, Nat.reduceLeDiff, Nat.reduceLT, Nat.reduceSub]
    | simp (disch := omega) only [wrap_in, toNat_succ, toNat_pred, Int.toNat_natCast]
    | with_reducible refine And.intro (by omega) ?_
    | with_reducible refine exI (by omega) ?_
    | fail
  · exact ⟨by simp only [nearB, ea, c, beq_self_eq_true, Bool.true_or], Keeps.refl h⟩
  · exact ⟨by simp only [nearB, ea, eb, beq_eq_false_iff_ne.2 c, Bool.false_or], Keeps.refl h⟩
theorem ref_Neighbours_spec (ps : List Int) (e : Bool) (v : Int) (hlen : ps.length < 2 ^ 29) : PureF Try.prog 89 [.l e 1 (ps.map I), .int .i64 v] (.l false 1 ((refNbr ps v).map I)) := by
  refine PureF.of_awpZ mixed (fun _ => []) (fn := Try.f89) (by kernel_rfl) rfl (by kernel_rfl) (by show 2 ≤ _; decide) (by simp [AV.lf, I_lfs]) (fun h => ?_)
  rw [awp_assoc, awp_assoc]
  refine awp_cut (fun s => s.slots 0 = .l e 1 (ps.map I) ∧ s.slots 1 = .int .i64 v ∧ s.slots 5 = .l true 0 [] ∧ s.hp = h ∧ hasN ps v = true) ?_ ?_
  · repeat' first
      | (with_reducible refine CondX.dec (fun c => ?_) (fun c => ?_)) <;> try (exfalso; omega)
      | (with_reducible refine CondX.beq (fun c => ?_) (fun c => ?_)) <;> try (exfalso; omega)
      | (with_reducible refine CondX.bne (fun c => ?_) (fun c => ?_)) <;> try (exfalso; omega)
      | (with_reducible refine CondX.bool (fun c => ?_) (fun c => ?_)) <;> try (exfalso; omega)
      | simp only [go_sem, I_eq, I_cells, Nat.reduceAdd, Nat.reduceBEq, Nat.reduceEqDiff, Nat.reduceLeDiff, Nat.reduceLT, Nat.reduceSub]
      | simp (disch := omega) only [wrap_in, toNat_succ, toNat_pred, Int.toNat_natCast]
      | with_reducible refine And.intro (by omega) ?_
      | with_reducible refine exI (by omega) ?_
      | fail
    all_goals first
      | exact ⟨h, .done _ _ _ (by rw [refNbr, if_neg (by simp [hasN]; omega)]; exact Le.l0), Keeps.refl h⟩
      | (simp [hasN]; omega)
  rintro s ⟨g0, g1, g5, gH, hv⟩
  repeat' first
    | (with_reducible refine CondX.dec (fun c => ?_) (fun c => ?_)) <;> try (exfalso; omega)
    | (with_reducible refine CondX.beq (fun c => ?_) (fun c => ?_)) <;> try (exfalso; omega)
    | (with_reducible refine CondX.bne (fun c => ?_) (fun c => ?_)) <;> try (exfalso; omega)
    | (with_reducible refine CondX.bool (fun c => ?_) (fun c => ?_)) <;> try (exfalso; omega)
    | simp only [go_sem, I_eq, I_cells, g0, g1, g5, gH, Nat.reduceAdd, Nat.reduceBEq, Nat.reduceEqDiff, Nat.reduceLeDiff, Nat.reduceLT, Nat.reduceSub]
    | simp (disch := omega) only [wrap_in, toNat_succ, toNat_pred, Int.toNat_natCast]
    | with_reducible refine And.intro (by omega) ?_
    | with_reducible refine exI (by omega) ?_
    | fail
  refine awp_for 6 ps.length (by omega) (fun i s => s.slots 0 = .l e 1 (ps.map I) ∧ s.slots 1 = .int .i64 v ∧ Keeps h s.hp ∧ Acc h s.hp 1 (s.slots 5) ((refN ps v i).map I)) ?_ ?_ ?_ ?_
  · simp only [go_sem, I_eq, I_cells, Nat.reduceAdd, Nat.reduceBEq, Nat.reduceEqDiff, Nat.reduceLeDiff, Nat.reduceLT, Nat.reduceSub]
  · simp only [go_sem, I_eq, I_cells, g0, g1, g5, gH, Nat.reduceAdd, Nat.reduceBEq, Nat.reduceEqDiff, Nat.reduceLeDiff, Nat.reduceLT, Nat.reduceSub]
    exact ⟨Keeps.refl h, .nil⟩
  · clear g0 g1 g5 gH
    rintro i s hlt d2 hw g6 ⟨g0, g1, gH, ga⟩
    have hn := refN_len ps v i
    have hs := refN_succ ps v i
    repeat' first
      | (with_reducible refine CondX.dec (fun c => ?_) (fun c => ?_)) <;> try (exfalso; omega)
      | (with_reducible refine CondX.beq (fun c => ?_) (fun c => ?_)) <;> try (exfalso; omega)
      | (with_reducible refine CondX.bne (fun c => ?_) (fun c => ?_)) <;> try (exfalso; omega)
      | (with_reducible refine CondX.bool (fun c => ?_) (fun c => ?_)) <;> try (exfalso; omega)
      | ((with_reducible refine CallX.id ?_); first | refine CallX.pure (ref_Near_spec ps e i v (by simp [hasN]; omega) hv) ?_)
      | simp only [go_sem, I_eq, I_cells, g0, g1, g6, d2, hw, Nat.reduceAdd, Nat.reduceBEq, Nat.reduceEqDiff, Nat.reduceLeDiff, Nat.reduceLT, Nat.reduceSub]
      | simp (disch := omega) only [wrap_in, toNat_succ, toNat_pred, Int.toNat_natCast]
      | with_reducible refine And.intro (by omega) ?_
      | with_reducible refine exI (by omega) ?_
      | fail
    · refine ga.app gH (by simp; omega) (by simp; omega) (by decide) fun H' v' a k _ _ _ => ?_
      exact ⟨k, by rw [hs, if_pos c, List.map_append]; exact a⟩
    · rw [hs, c]; exact ga
  · clear g0 g1 g5 gH
    rintro s d2 g6 ⟨g0, g1, gH, ga⟩
    simp only [go_sem, I_eq, I_cells, g0, g1, g6, d2, Nat.reduceAdd, Nat.reduceBEq, Nat.reduceEqDiff, Nat.reduceLeDiff, Nat.reduceLT, Nat.reduceSub]
    rw [refNbr, if_pos hv]
    exact ga.frz gH
theorem ref_chain_Good_spec (cs : List Cel) (e : Bool) (me : Int) (sink : Bool) (hlen : cs.length ≤ 9223372036854775807) : PureF Try.prog 90 [.l e 4 (cs.map encC), .int .i64 me, .bool sink] (.bool (goodC cs me sink)) := by
  refine PureF.of_awp mixed (fun _ => []) (fn := Try.f90) (by kernel_rfl) rfl (by kernel_rfl) (by show 3 ≤ _; decide) (by simp [AV.lf]) (fun h => ?_)
  by_cases hz : sink = true ∧ cs.length = 0
  · obtain ⟨rfl, hz⟩ := hz
    have d0 : ((cs.length : Int) == 0) = true := by rw [hz]; rfl
    simp only [go_sem, I_eq, I_cells, d0, Nat.reduceAdd, Nat.reduceBEq, Nat.reduceEqDiff, Nat.reduceLeDiff, Nat.reduceLT, Nat.reduceSub]
    exact ⟨by have := List.length_eq_zero_iff.1 hz; subst this; rfl, Keeps.refl h⟩
  have he : (sink && cs.isEmpty) = false := by
    cases sink
    · rfl
    · have : cs ≠ [] := fun hc => hz ⟨rfl, by rw [hc]; rfl⟩
      simpa using this
  rw [awp_assoc, awp_assoc]
  refine awp_cut (fun s => s.slots 0 = .l e 4 (cs.map encC) ∧ s.slots 1 = .int .i64 me ∧ s.slots 2 = .bool sink ∧ s.slots 7 = .int .i64 cs.length ∧ s.hp = h) ?_ ?_
  · repeat' first
      | (with_reducible refine CondX.dec (fun c => ?_) (fun c => ?_)) <;> try (exfalso; omega)
      | (with_reducible refine CondX.beq (fun c => ?_) (fun c => ?_)) <;> try (exfalso; omega)
      | (with_reducible refine CondX.bne (fun c => ?_) (fun c => ?_)) <;> try (exfalso; omega)
      | (with_reducible refine CondX.bool (fun c => ?_) (fun c => ?_)) <;> try (exfalso; omega)
      | simp only [go_sem, I_eq, I_cells, Nat.reduceAdd, Nat.reduceBEq, Nat.reduceEqDiff, Nat.reduceLeDiff, Nat.reduceLT, Nat.reduceSub]
      | simp (disch := omega) only [wrap_in, toNat_succ, toNat_pred, Int.toNat_natCast]
      | with_reducible refine And.intro (by omega) ?_
      | with_reducible refine exI (by omega) ?_
      | fail
    exact absurd ⟨‹sink = true›, by omega⟩ hz
  rintro s ⟨h0, h1, h2, h7, hH⟩
  clear hz
  simp only [go_sem, I_eq, I_cells, h0, h1, h2, h7, hH, Nat.reduceAdd, Nat.reduceBEq, Nat.reduceEqDiff, Nat.reduceLeDiff, Nat.reduceLT, Nat.reduceSub]
  refine awp_for 8 cs.length (by omega) (fun i s => s.slots 0 = .l e 4 (cs.map encC) ∧ s.slots 1 = .int .i64 me ∧ s.slots 2 = .bool sink ∧ s.slots 7 = .int .i64 cs.length ∧ (∀ u, u < i → cellAt cs me sink u = true) ∧ Keeps h s.hp) ?_ ?_ ?_ ?_
  · simp only [go_sem, I_eq, I_cells, Nat.reduceAdd, Nat.reduceBEq, Nat.reduceEqDiff, Nat.reduceLeDiff, Nat.reduceLT, Nat.reduceSub]
  · simp only [go_sem, I_eq, I_cells, h0, h1, h2, h7, hH, Nat.reduceAdd, Nat.reduceBEq, Nat.reduceEqDiff, Nat.reduceLeDiff, Nat.reduceLT, Nat.reduceSub]
    exact ⟨fun u hu => absurd hu (by omega), Keeps.refl h⟩
  · clear h0 h1 h2 h7 hH
    rintro i s hlt d2 hw g8 ⟨h0, h1, h2, h7, hn, hH⟩
    have hbad := fun hc => goodC_bad (me := me) (sink := sink) hlt (Bool.eq_false_iff.2 (mt cellOk_iff.1 hc))
    have hgo := fun hc => goodC_next (me := me) (sink := sink) hlt hn (cellOk_iff.2 hc)
    unfold CellP at hbad hgo
    rw [cell_nx (show i - 1 < cs.length by omega)] at hbad hgo
    have hwl : IntKind.i64.wrap ((cs.length : Int) - 1) = (cs.length : Int) - 1 := IntWalk.i64_in _ (by omega)
    have hwp : IntKind.i64.wrap ((i : Int) - 1) = (i : Int) - 1 := IntWalk.i64_in _ (by omega)
    refine awp_go ⟨_, by simp only [go_sem, I_eq, I_cells, h0, h1, h2, h7, g8, d2, Nat.reduceAdd, Nat.reduceBEq, Nat.reduceEqDiff, Nat.reduceLeDiff, Nat.reduceLT, Nat.reduceSub]; exact rfl, ?_⟩
    rw [awp_seq, awp_block, awp_assoc, awp_assoc, awp_assoc]
    clear he hn
    refine awp_cut (fun t => t.slots 0 = .l e 4 (cs.map encC) ∧ t.slots 1 = .int .i64 me ∧ t.slots 2 = .bool sink ∧ t.slots 7 = .int .i64 cs.length ∧ t.slots 8 = .int .i64 i ∧ (∃ L, t.slots 9 = .pt L 0 0 0 ∧ t.hp.con L = .blk (encC cs[i]).cells) ∧ Keeps h t.hp ∧
      (0 ≤ cs[i].num ∧ cs[i].num ≤ 1099511627776) ∧ (i = 0 ∨ cs[i - 1].num < cs[i].num) ∧ (1 ≤ cs[i].state ∧ cs[i].state ≤ 3) ∧ (i = 0 ∨ cs[i].state = 1) ∧ (cs[i].num ≠ 0 ∨ cs[i].state = 3)) ?_ ?_
    · repeat' first
        | (with_reducible refine CondX.dec (fun c => ?_) (fun c => ?_)) <;> try (exfalso; omega)
        | (with_reducible refine CondX.beq (fun c => ?_) (fun c => ?_)) <;> try (exfalso; omega)
        | (with_reducible refine CondX.bne (fun c => ?_) (fun c => ?_)) <;> try (exfalso; omega)
        | (with_reducible refine CondX.bool (fun c => ?_) (fun c => ?_)) <;> try (exfalso; omega)
        | simp only [go_sem, I_eq, I_cells, hwp, h0, h1, h2, h7, g8, encC_cells, Nat.reduceAdd, Nat.reduceBEq, Nat.reduceEqDiff, Nat.reduceLeDiff, Nat.reduceLT, Nat.reduceSub]
        | simp (disch := omega) only [wrap_in, toNat_succ, toNat_pred, Int.toNat_natCast]
        | with_reducible refine And.intro (by omega) ?_
        | with_reducible refine exI (by omega) ?_
        | fail
      all_goals first
        | exact ⟨by rw [hbad (by omega)], by ((repeat with_reducible apply Keeps.alloc); first | assumption | exact Keeps.refl _)⟩
        | exact ⟨⟨_, rfl, by simp only [go_sem, I_eq, I_cells, Nat.reduceAdd, Nat.reduceBEq, Nat.reduceEqDiff, Nat.reduceLeDiff, Nat.reduceLT, Nat.reduceSub]⟩, by ((repeat with_reducible apply Keeps.alloc); first | assumption | exact Keeps.refl _), by omega, by omega, by omega, by omega, by omega⟩
    · clear h0 h1 h2 h7 g8 hH
      rintro t ⟨h0, h1, h2, h7, g8, ⟨L, h9, hL⟩, hH, q1, q2, q3, q4, q5⟩
      repeat' first
        | (with_reducible refine CondX.dec (fun c => ?_) (fun c => ?_)) <;> try (exfalso; omega)
        | (with_reducible refine CondX.beq (fun c => ?_) (fun c => ?_)) <;> try (exfalso; omega)
        | (with_reducible refine CondX.bne (fun c => ?_) (fun c => ?_)) <;> try (exfalso; omega)
        | (with_reducible refine CondX.bool (fun c => ?_) (fun c => ?_)) <;> try (exfalso; omega)
        | simp only [go_sem, I_eq, I_cells, hwl, h0, h1, h2, h7, g8, h9, hL, encC_cells, hw, Nat.reduceAdd, Nat.reduceBEq, Nat.reduceEqDiff, Nat.reduceLeDiff, Nat.reduceLT, Nat.reduceSub]
        | simp (disch := omega) only [wrap_in, toNat_succ, toNat_pred, Int.toNat_natCast]
        | with_reducible refine And.intro (by omega) ?_
        | with_reducible refine exI (by omega) ?_
        | fail
      all_goals first
        | ((repeat with_reducible apply Keeps.alloc); first | assumption | exact Keeps.refl _)
        | skip
      all_goals
        have hl := Nat.lt_or_ge (i + 1) cs.length
        rcases hl with hl | hl
        case' inl => rw [cell_nx hl] at hbad hgo
      all_goals
        cases sink <;> simp only [Bool.false_eq_true, false_and, false_implies, not_false_eq_true, true_implies, true_and] at hbad hgo ⊢ <;> first
        | contradiction
        | (exfalso; omega)
        | exact ⟨by rw [hbad (by omega)], by ((repeat with_reducible apply Keeps.alloc); first | assumption | exact Keeps.refl _)⟩
        | exact ⟨hgo (by omega), by ((repeat with_reducible apply Keeps.alloc); first | assumption | exact Keeps.refl _)⟩
  · clear h0 h1 h2 h7 hH
    rintro s d2 g8 ⟨h0, h1, h2, h7, hn, hH⟩
    simp only [go_sem, I_eq, I_cells, d2, g8, h0, h1, h2, h7, Nat.reduceAdd, Nat.reduceBEq, Nat.reduceEqDiff, Nat.reduceLeDiff, Nat.reduceLT, Nat.reduceSub]
    exact ⟨by rw [goodC_all he hn], hH⟩
theorem ref_Meant_spec (n k : Int) (m : Msg) : PureF Try.prog 92 [.int .i64 n, .int .i64 k, encM m] (.bool (meantB n k m)) := by
  refine PureF.of_awp mixed (fun _ => []) (fn := Try.f92) (by kernel_rfl) rfl (by kernel_rfl) (by show 3 ≤ _; decide) (by simp [AV.lf]) (fun h => ?_)
  repeat' first
    | (with_reducible refine CondX.dec (fun c => ?_) (fun c => ?_)) <;> try (exfalso; omega)
    | (with_reducible refine CondX.beq (fun c => ?_) (fun c => ?_)) <;> try (exfalso; omega)
    | (with_reducible refine CondX.bne (fun c => ?_) (fun c => ?_)) <;> try (exfalso; omega)
    | (with_reducible refine CondX.bool (fun c => ?_) (fun c => ?_)) <;> try (exfalso; omega)
    | simp only [go_sem, I_eq, I_cells, encM, encM_cells, Nat.reduceAdd, Nat.reduceBEq, Nat.reduceEqDiff, Nat.reduceLeDiff, Nat.reduceLT, Nat.reduceSub]
    | simp (disch := omega) only [wrap_in, toNat_succ, toNat_pred, Int.toNat_natCast]
    | with_reducible refine And.intro (by omega) ?_
    | with_reducible refine exI (by omega) ?_
    | fail
  all_goals
    exact ⟨by congr 1; rw [Bool.eq_iff_iff]; simp [meantB, withinB]; omega, by ((repeat with_reducible apply Keeps.alloc); first | assumption | exact Keeps.refl _)⟩
theorem ref_Open_spec (s : Nst) (ho : s.objs.length ≤ 8) (hc : ∀ o ∈ s.objs, o.cells.length ≤ 1099511627777) : PureF Try.prog 93 [encS s] (.int .i64 (openS s.objs)) := by
  refine PureF.of_awp mixed (fun _ => []) (fn := Try.f93) (by kernel_rfl) rfl (by kernel_rfl) (by show 1 ≤ _; decide) (by simp [AV.lf]) (fun h => ?_)
  have hb := openS_le s.objs hc
  repeat' first
    | (with_reducible refine CondX.dec (fun c => ?_) (fun c => ?_)) <;> try (exfalso; omega)
    | (with_reducible refine CondX.beq (fun c => ?_) (fun c => ?_)) <;> try (exfalso; omega)
    | (with_reducible refine CondX.bne (fun c => ?_) (fun c => ?_)) <;> try (exfalso; omega)
    | (with_reducible refine CondX.bool (fun c => ?_) (fun c => ?_)) <;> try (exfalso; omega)
    | simp only [go_sem, I_eq, I_cells, encS, encS_cells, Nat.reduceAdd, Nat.reduceBEq, Nat.reduceEqDiff, Nat.reduceLeDiff, Nat.reduceLT, Nat.reduceSub]
    | simp (disch := omega) only [wrap_in, toNat_succ, toNat_pred, Int.toNat_natCast]
    | with_reducible refine And.intro (by omega) ?_
    | with_reducible refine exI (by omega) ?_
    | fail
  refine awp_count 9 8 s.objs.length (by omega) (fun i t => t.slots 7 = .l false 3 (s.objs.map encO) ∧ t.slots 3 = .int .i64 (openS (s.objs.take i)) ∧ Keeps h t.hp) ?_ ?_ ?_ ?_ ?_
  · simp only [go_sem, I_eq, I_cells, Nat.reduceAdd, Nat.reduceBEq, Nat.reduceEqDiff, Nat.reduceLeDiff, Nat.reduceLT, Nat.reduceSub]
  · simp only [go_sem, I_eq, I_cells, Nat.reduceAdd, Nat.reduceBEq, Nat.reduceEqDiff, Nat.reduceLeDiff, Nat.reduceLT, Nat.reduceSub]
  · simp only [go_sem, I_eq, I_cells, Nat.reduceAdd, Nat.reduceBEq, Nat.reduceEqDiff, Nat.reduceLeDiff, Nat.reduceLT, Nat.reduceSub]
    exact ⟨by simp [openS], by ((repeat with_reducible apply Keeps.alloc); first | assumption | exact Keeps.refl _)⟩
  · rintro i t hlt d2 hw g9 g8 ⟨g7, g3, hH⟩
    have hl := hc _ (List.getElem_mem hlt)
    have h1 := openN_le s.objs[i].cells
    have h2 := hb i
    have h4 : i * 1099511627777 ≤ 8 * 1099511627777 := Nat.mul_le_mul_right _ (by omega)
    have hst := openS_next hlt
    repeat' first
      | (with_reducible refine CondX.dec (fun c => ?_) (fun c => ?_)) <;> try (exfalso; omega)
      | (with_reducible refine CondX.beq (fun c => ?_) (fun c => ?_)) <;> try (exfalso; omega)
      | (with_reducible refine CondX.bne (fun c => ?_) (fun c => ?_)) <;> try (exfalso; omega)
      | (with_reducible refine CondX.bool (fun c => ?_) (fun c => ?_)) <;> try (exfalso; omega)
      | ((with_reducible refine CallX.id ?_); first | refine CallX.pure (f116_spec _ _ (by omega)) ?_)
      | simp only [go_sem, I_eq, I_cells, d2, hw, g9, g8, g7, g3, encO_cells, Nat.reduceAdd, Nat.reduceBEq, Nat.reduceEqDiff, Nat.reduceLeDiff, Nat.reduceLT, Nat.reduceSub]
      | simp (disch := omega) only [wrap_in, toNat_succ, toNat_pred, Int.toNat_natCast]
      | with_reducible refine And.intro (by omega) ?_
      | with_reducible refine exI (by omega) ?_
      | fail
    exact ⟨by rw [hst]; push_cast; rfl, by ((repeat with_reducible apply Keeps.alloc); first | assumption | exact Keeps.refl _)⟩
  · rintro t d2 g9 g8 ⟨g7, g3, hH⟩
    rw [List.take_length] at g3
    simp only [go_sem, I_eq, I_cells, d2, g9, g8, g7, g3, Nat.reduceAdd, Nat.reduceBEq, Nat.reduceEqDiff, Nat.reduceLeDiff, Nat.reduceLT, Nat.reduceSub]
    exact hH
def T58 : Nat → List Tg := fun id => if id = 30 then [.plain, .plain, .plain, .plain, .plain, .plain, .plain, .plain, .plain, .pure] else []
theorem ref_Good_spec (ps : List Int) (e : Bool) (s : Nst) (hlen : ps.length < 2 ^ 29) (hs : Sized s) : PureF Try.prog 58 [.l e 1 (ps.map I), encS s] (.bool (goodR ps s)) := by
  refine PureF.of_awp mixed T58 (fn := Try.f58) (by kernel_rfl) rfl (by kernel_rfl) (by show 2 ≤ _; decide) (by simp [AV.lf]) (fun h => ?_)
  obtain ⟨ho, he, hk, hg, hc, hu⟩ := id hs
  have hnl : (refNbr ps s.me).length ≤ ps.length := by unfold refNbr; split <;> simp [refN_len]
  have hgs : goodR ps s = (decide (0 ≤ s.me ∧ s.me < ps.length) && decide (1 ≤ s.objs.length ∧ s.objs.length ≤ 8) && s.objs.all (ownR ps.length (refNbr ps s.me) s.me) &&
    (s.edges.length == (refNbr ps s.me).length) && ((refNbr ps s.me).zip s.edges).all (edgeB ps.length s.objs.length) && (decide (0 ≤ s.asked ∧ s.asked ≤ 1099511627776) && decide (s.asks.length ≤ 4) && decide (s.got.length ≤ 4)) &&
    asksR s.objs.length s.asked none s.asks && s.got.all (foundR ps.length s.objs.length s.asked) && decide (openS s.objs ≤ 8)) := rfl
  rw [awp_assoc, awp_assoc, awp_assoc, awp_assoc]
  refine awp_cut (fun t => t.slots 0 = .l e 1 (ps.map I) ∧ t.slots 3 = .pt ⟨58, 3, h.cnt 58 3⟩ 0 0 0 ∧ t.slots 5 = .int .i64 ps.length ∧ t.slots 6 = .int .i64 s.objs.length ∧ t.slots 7 = .l false 1 ((refNbr ps s.me).map I) ∧ t.hp.con ⟨58, 3, h.cnt 58 3⟩ = .blk (encS s).cells ∧ Keeps h t.hp ∧ (decide (0 ≤ s.me ∧ s.me < ps.length) && decide (1 ≤ s.objs.length ∧ s.objs.length ≤ 8)) = true) ?_ ?_
  · repeat' first
      | (with_reducible refine CondX.dec (fun c => ?_) (fun c => ?_)) <;> try (exfalso; omega)
      | (with_reducible refine CondX.beq (fun c => ?_) (fun c => ?_)) <;> try (exfalso; omega)
      | (with_reducible refine CondX.bne (fun c => ?_) (fun c => ?_)) <;> try (exfalso; omega)
      | (with_reducible refine CondX.bool (fun c => ?_) (fun c => ?_)) <;> try (exfalso; omega)
      | ((with_reducible refine CallX.id ?_); first | refine CallX.pure (ref_Neighbours_spec ps e s.me hlen) ?_)
      | simp only [go_sem, I_eq, I_cells, T58, encS, encS_cells, Nat.reduceAdd, Nat.reduceBEq, Nat.reduceEqDiff, Nat.reduceLeDiff, Nat.reduceLT, Nat.reduceSub]
      | simp (disch := omega) only [wrap_in, toNat_succ, toNat_pred, Int.toNat_natCast]
      | with_reducible refine And.intro (by omega) ?_
      | with_reducible refine exI (by omega) ?_
      | fail
    all_goals first
      | exact ⟨by rw [hgs, decide_eq_false (show ¬ (0 ≤ s.me ∧ s.me < ps.length) by omega)]; rfl, by ((repeat with_reducible apply Keeps.alloc); first | assumption | exact Keeps.refl _)⟩
      | exact ⟨by rw [hgs, decide_eq_false (show ¬ (1 ≤ s.objs.length ∧ s.objs.length ≤ 8) by omega), Bool.and_false]; rfl, by ((repeat with_reducible apply Keeps.alloc); first | assumption | exact Keeps.refl _)⟩
      | exact ⟨by ((repeat with_reducible apply Keeps.alloc); first | assumption | exact Keeps.refl _), by simp; omega⟩
  rintro t ⟨g0, g3, g5, g6, g7, gB, gH, hh⟩
  have ho8 : s.objs.length ≤ 8 := by simp at hh; omega
  rw [hh, Bool.true_and] at hgs
  clear hh
  repeat' first
    | (with_reducible refine CondX.dec (fun c => ?_) (fun c => ?_)) <;> try (exfalso; omega)
    | (with_reducible refine CondX.beq (fun c => ?_) (fun c => ?_)) <;> try (exfalso; omega)
    | (with_reducible refine CondX.bne (fun c => ?_) (fun c => ?_)) <;> try (exfalso; omega)
    | (with_reducible refine CondX.bool (fun c => ?_) (fun c => ?_)) <;> try (exfalso; omega)
    | simp only [go_sem, I_eq, I_cells, T58, g0, g3, g5, g6, g7, gB, encS_cells, Nat.reduceAdd, Nat.reduceBEq, Nat.reduceEqDiff, Nat.reduceLeDiff, Nat.reduceLT, Nat.reduceSub]
    | simp (disch := omega) only [wrap_in, toNat_succ, toNat_pred, Int.toNat_natCast]
    | with_reducible refine And.intro (by omega) ?_
    | with_reducible refine exI (by omega) ?_
    | fail
  refine awp_count 52 51 s.objs.length (by omega) (fun i t => t.slots 0 = .l e 1 (ps.map I) ∧ t.slots 3 = .pt ⟨58, 3, h.cnt 58 3⟩ 0 0 0 ∧ t.slots 5 = .int .i64 ps.length ∧ t.slots 6 = .int .i64 s.objs.length ∧ t.slots 7 = .l false 1 ((refNbr ps s.me).map I) ∧ t.hp.con ⟨58, 3, h.cnt 58 3⟩ = .blk (encS s).cells ∧ Keeps h t.hp ∧ t.slots 50 = .l false 3 (s.objs.map encO) ∧ s.objs.all (ownR ps.length (refNbr ps s.me) s.me) = (s.objs.drop i).all (ownR ps.length (refNbr ps s.me) s.me)) ?_ ?_ ?_ ?_ ?_
  · simp only [go_sem, I_eq, I_cells, Nat.reduceAdd, Nat.reduceBEq, Nat.reduceEqDiff, Nat.reduceLeDiff, Nat.reduceLT, Nat.reduceSub]
  · simp only [go_sem, I_eq, I_cells, Nat.reduceAdd, Nat.reduceBEq, Nat.reduceEqDiff, Nat.reduceLeDiff, Nat.reduceLT, Nat.reduceSub]
  · simp only [go_sem, I_eq, I_cells, T58, g0, g3, g5, g6, g7, gB, encS_cells, Nat.reduceAdd, Nat.reduceBEq, Nat.reduceEqDiff, Nat.reduceLeDiff, Nat.reduceLT, Nat.reduceSub]
    exact gH
  · clear g0 g3 g5 g6 g7 gB gH
    rintro i t hlt d2 hw g52 g51 ⟨g0, g3, g5, g6, g7, gB, gH, g50, ha⟩
    have hcc := hc _ (List.getElem_mem hlt)
    rw [drop_cons hlt, List.all_cons, ownR] at ha
    obtain ⟨gg, hgg⟩ : ∃ g, goodC s.objs[i].cells s.me (s.objs[i].arrow == s.me) = g := ⟨_, rfl⟩
    rw [hgg] at ha
    repeat' first
      | (with_reducible refine CondX.dec (fun c => ?_) (fun c => ?_)) <;> try (exfalso; omega)
      | (with_reducible refine CondX.beq (fun c => ?_) (fun c => ?_)) <;> try (exfalso; omega)
      | (with_reducible refine CondX.bne (fun c => ?_) (fun c => ?_)) <;> try (exfalso; omega)
      | (with_reducible refine CondX.bool (fun c => ?_) (fun c => ?_)) <;> try (exfalso; omega)
      | simp only [go_sem, I_eq, I_cells, T58, g0, g3, g5, g6, g7, gB, encS_cells, g52, g51, g50, d2, hw, encO_cells, Nat.reduceAdd, Nat.reduceBEq, Nat.reduceEqDiff, Nat.reduceLeDiff, Nat.reduceLT, Nat.reduceSub]
      | simp (disch := omega) only [wrap_in, toNat_succ, toNat_pred, Int.toNat_natCast]
      | with_reducible refine And.intro (by omega) ?_
      | with_reducible refine exI (by omega) ?_
      | fail
    refine awp_count 63 62 (refNbr ps s.me).length (by omega) (fun j t => t.slots 0 = .l e 1 (ps.map I) ∧ t.slots 3 = .pt ⟨58, 3, h.cnt 58 3⟩ 0 0 0 ∧ t.slots 5 = .int .i64 ps.length ∧ t.slots 6 = .int .i64 s.objs.length ∧ t.slots 7 = .l false 1 ((refNbr ps s.me).map I) ∧ t.hp.con ⟨58, 3, h.cnt 58 3⟩ = .blk (encS s).cells ∧ Keeps h t.hp ∧ t.slots 61 = .l false 1 ((refNbr ps s.me).map I) ∧ t.slots 50 = .l false 3 (s.objs.map encO) ∧ t.slots 51 = .int .i64 s.objs.length ∧ t.slots 52 = .int .i64 i ∧ (∃ L, t.slots 9 = .pt L 0 0 0 ∧ t.hp.con L = .blk (encO s.objs[i]).cells) ∧
      t.slots 10 = .bool (s.objs[i].arrow == s.me || decide (s.objs[i].arrow ∈ (refNbr ps s.me).take j))) ?_ ?_ ?_ ?_ ?_
    · simp only [go_sem, I_eq, I_cells, g7, Nat.reduceAdd, Nat.reduceBEq, Nat.reduceEqDiff, Nat.reduceLeDiff, Nat.reduceLT, Nat.reduceSub]
    · simp only [go_sem, I_eq, I_cells, T58, g0, g3, g5, g6, g7, gB, encS_cells, Nat.reduceAdd, Nat.reduceBEq, Nat.reduceEqDiff, Nat.reduceLeDiff, Nat.reduceLT, Nat.reduceSub]
    · simp only [go_sem, I_eq, I_cells, T58, g0, g3, g5, g6, g7, gB, encS_cells, g50, g51, g52, encO_cells, Nat.reduceAdd, Nat.reduceBEq, Nat.reduceEqDiff, Nat.reduceLeDiff, Nat.reduceLT, Nat.reduceSub]
      exact ⟨by ((repeat with_reducible apply Keeps.alloc); first | assumption | exact Keeps.refl _), ⟨_, rfl, by simp only [go_sem, I_eq, I_cells, encO_cells, Nat.reduceAdd, Nat.reduceBEq, Nat.reduceEqDiff, Nat.reduceLeDiff, Nat.reduceLT, Nat.reduceSub]⟩, by simp⟩
    · clear g0 g3 g5 g6 g7 gB gH g50 g51 g52
      rintro j t hlj d3 hw2 g63 g62 ⟨g0, g3, g5, g6, g7, gB, gH, g61, g50, g51, g52, ⟨L, g9, hL⟩, g10⟩
      have hst : (decide (s.objs[i].arrow ∈ (refNbr ps s.me).take (j + 1)) : Bool) = (decide (s.objs[i].arrow ∈ (refNbr ps s.me).take j) || decide ((refNbr ps s.me)[j] = s.objs[i].arrow)) := by
        rw [List.take_succ_eq_append_getElem hlj, Bool.eq_iff_iff]; simp only [decide_eq_true_eq, Bool.or_eq_true, List.mem_append, List.mem_singleton]; exact or_congr Iff.rfl eq_comm
      repeat' first
        | (with_reducible refine CondX.dec (fun c => ?_) (fun c => ?_)) <;> try (exfalso; omega)
        | (with_reducible refine CondX.beq (fun c => ?_) (fun c => ?_)) <;> try (exfalso; omega)
        | (with_reducible refine CondX.bne (fun c => ?_) (fun c => ?_)) <;> try (exfalso; omega)
        | (with_reducible refine CondX.bool (fun c => ?_) (fun c => ?_)) <;> try (exfalso; omega)
        | simp only [go_sem, I_eq, I_cells, T58, g0, g3, g5, g6, g7, gB, encS_cells, g61, g50, g51, g52, g9, hL, g10, g63, g62, d3, hw2, encO_cells, Nat.reduceAdd, Nat.reduceBEq, Nat.reduceEqDiff, Nat.reduceLeDiff, Nat.reduceLT, Nat.reduceSub]
        | simp (disch := omega) only [wrap_in, toNat_succ, toNat_pred, Int.toNat_natCast]
        | with_reducible refine And.intro (by omega) ?_
        | with_reducible refine exI (by omega) ?_
        | fail
      · exact ⟨⟨_, rfl, by rw [hL, encO_cells]⟩, by rw [hst, decide_eq_true c]; simp⟩
      · exact ⟨⟨_, rfl, by rw [hL, encO_cells]⟩, by rw [hst, decide_eq_false c]; simp⟩
    · clear g0 g3 g5 g6 g7 gB gH g50 g51 g52
      rintro t d3 g63 g62 ⟨g0, g3, g5, g6, g7, gB, gH, g61, g50, g51, g52, ⟨L, g9, hL⟩, g10⟩
      rw [List.take_length] at g10
      obtain ⟨ok, hok⟩ : ∃ b, (s.objs[i].arrow == s.me || decide (s.objs[i].arrow ∈ refNbr ps s.me)) = b := ⟨_, rfl⟩
      rw [hok] at ha g10
      repeat' first
        | (with_reducible refine CondX.dec (fun c => ?_) (fun c => ?_)) <;> try (exfalso; omega)
        | (with_reducible refine CondX.beq (fun c => ?_) (fun c => ?_)) <;> try (exfalso; omega)
        | (with_reducible refine CondX.bne (fun c => ?_) (fun c => ?_)) <;> try (exfalso; omega)
        | (with_reducible refine CondX.bool (fun c => ?_) (fun c => ?_)) <;> try (exfalso; omega)
        | ((with_reducible refine CallX.id ?_); first | refine CallX.pure (ref_chain_Good_spec s.objs[i].cells _ _ _ (by omega)) ?_)
        | simp only [go_sem, I_eq, I_cells, T58, g0, g3, g5, g6, g7, gB, encS_cells, g61, g50, g51, g52, g9, hL, g10, g63, g62, d3, encO_cells, hgg, Nat.reduceAdd, Nat.reduceBEq, Nat.reduceEqDiff, Nat.reduceLeDiff, Nat.reduceLT, Nat.reduceSub]
        | simp (disch := omega) only [wrap_in, toNat_succ, toNat_pred, Int.toNat_natCast]
        | with_reducible refine And.intro (by omega) ?_
        | with_reducible refine exI (by omega) ?_
        | fail
      all_goals try exact ⟨by rw [hgs, ha, c]; simp, by ((repeat with_reducible apply Keeps.alloc); first | assumption | exact Keeps.refl _)⟩
      all_goals try exact ⟨by rw [hgs, ha, decide_eq_false (show ¬ (0 ≤ s.objs[i].made ∧ s.objs[i].made ≤ 1099511627776) by omega)]; simp, by ((repeat with_reducible apply Keeps.alloc); first | assumption | exact Keeps.refl _)⟩
      rename_i c1 c2 c3
      rw [c1, c, decide_eq_true (show 0 ≤ s.objs[i].made ∧ s.objs[i].made ≤ 1099511627776 by omega), Bool.true_and, Bool.true_and, Bool.true_and] at ha
      clear hok hgg c c1 c2 c3
      refine awp_count 100 99 s.objs[i].cells.length (by omega) (fun j t => t.slots 0 = .l e 1 (ps.map I) ∧ t.slots 3 = .pt ⟨58, 3, h.cnt 58 3⟩ 0 0 0 ∧ t.slots 5 = .int .i64 ps.length ∧ t.slots 6 = .int .i64 s.objs.length ∧ t.slots 7 = .l false 1 ((refNbr ps s.me).map I) ∧ t.hp.con ⟨58, 3, h.cnt 58 3⟩ = .blk (encS s).cells ∧ Keeps h t.hp ∧ t.slots 98 = .l false 4 (s.objs[i].cells.map encC) ∧ t.slots 50 = .l false 3 (s.objs.map encO) ∧ t.slots 51 = .int .i64 s.objs.length ∧ t.slots 52 = .int .i64 i ∧ (∃ L, t.slots 9 = .pt L 0 0 0 ∧ t.hp.con L = .blk (encO s.objs[i]).cells) ∧
        s.objs[i].cells.all (fun c => decide (c.num ≤ s.objs[i].made) && decide (c.node < ps.length)) = (s.objs[i].cells.drop j).all (fun c => decide (c.num ≤ s.objs[i].made) && decide (c.node < ps.length))) ?_ ?_ ?_ ?_ ?_
      · simp only [go_sem, I_eq, I_cells, Nat.reduceAdd, Nat.reduceBEq, Nat.reduceEqDiff, Nat.reduceLeDiff, Nat.reduceLT, Nat.reduceSub]
      · simp only [go_sem, I_eq, I_cells, Nat.reduceAdd, Nat.reduceBEq, Nat.reduceEqDiff, Nat.reduceLeDiff, Nat.reduceLT, Nat.reduceSub]
      · simp only [go_sem, I_eq, I_cells, T58, g0, g3, g5, g6, g7, gB, encS_cells, g50, g51, g52, encO_cells, g9, hL, Nat.reduceAdd, Nat.reduceBEq, Nat.reduceEqDiff, Nat.reduceLeDiff, Nat.reduceLT, Nat.reduceSub]
        exact ⟨gH, _, rfl, hL⟩
      · clear g0 g3 g5 g6 g7 gB gH g50 g51 g52 g63 g62 g61 g9 hL g10 L
        rintro j t hlj d4 hw2 g100 g99 ⟨g0, g3, g5, g6, g7, gB, gH, g98, g50, g51, g52, ⟨L, g9, hL⟩, hb⟩
        rw [drop_cons hlj, List.all_cons] at hb
        have nL : (L = ⟨58, 14, t.hp.cnt 58 14⟩) = False := by
          simp only [eq_iff_iff, iff_false]; rintro rfl; rw [t.hp.ok _ (by simp)] at hL; cases hL
        repeat' first
          | (with_reducible refine CondX.dec (fun c => ?_) (fun c => ?_)) <;> try (exfalso; omega)
          | (with_reducible refine CondX.beq (fun c => ?_) (fun c => ?_)) <;> try (exfalso; omega)
          | (with_reducible refine CondX.bne (fun c => ?_) (fun c => ?_)) <;> try (exfalso; omega)
          | (with_reducible refine CondX.bool (fun c => ?_) (fun c => ?_)) <;> try (exfalso; omega)
          | simp only [go_sem, I_eq, I_cells, T58, g0, g3, g5, g6, g7, gB, encS_cells, g98, g50, g51, g52, g9, hL, nL, g100, g99, d4, hw2, encO_cells, encC_cells, Nat.reduceAdd, Nat.reduceBEq, Nat.reduceEqDiff, Nat.reduceLeDiff, Nat.reduceLT, Nat.reduceSub]
          | simp (disch := omega) only [wrap_in, toNat_succ, toNat_pred, Int.toNat_natCast]
          | with_reducible refine And.intro (by omega) ?_
          | with_reducible refine exI (by omega) ?_
          | fail
        · exact ⟨by rw [hgs, ha, hb, decide_eq_false (show ¬ (s.objs[i].cells[j].num ≤ s.objs[i].made) by omega)]; simp, by ((repeat with_reducible apply Keeps.alloc); first | assumption | exact Keeps.refl _)⟩
        · exact ⟨by rw [hgs, ha, hb, decide_eq_false (show ¬ (s.objs[i].cells[j].node < ps.length) by omega)]; simp, by ((repeat with_reducible apply Keeps.alloc); first | assumption | exact Keeps.refl _)⟩
        · exact ⟨by ((repeat with_reducible apply Keeps.alloc); first | assumption | exact Keeps.refl _), ⟨_, rfl, by simp only [go_sem, I_eq, I_cells, nL, hL, encO_cells, Nat.reduceAdd, Nat.reduceBEq, Nat.reduceEqDiff, Nat.reduceLeDiff, Nat.reduceLT, Nat.reduceSub]⟩, by rw [hb, decide_eq_true (show s.objs[i].cells[j].node < ps.length by omega), decide_eq_true (show s.objs[i].cells[j].num ≤ s.objs[i].made by omega)]; simp⟩
      · clear g0 g3 g5 g6 g7 gB gH g50 g51 g52 g63 g62 g61 g9 hL g10 L
        rintro t d4 g100 g99 ⟨g0, g3, g5, g6, g7, gB, gH, g98, g50, g51, g52, ⟨L, g9, hL⟩, hb⟩
        rw [List.drop_length, List.all_nil] at hb
        rw [hb, Bool.true_and] at ha
        repeat' first
          | (with_reducible refine CondX.dec (fun c => ?_) (fun c => ?_)) <;> try (exfalso; omega)
          | (with_reducible refine CondX.beq (fun c => ?_) (fun c => ?_)) <;> try (exfalso; omega)
          | (with_reducible refine CondX.bne (fun c => ?_) (fun c => ?_)) <;> try (exfalso; omega)
          | (with_reducible refine CondX.bool (fun c => ?_) (fun c => ?_)) <;> try (exfalso; omega)
          | simp only [go_sem, I_eq, I_cells, T58, g0, g3, g5, g6, g7, gB, encS_cells, g98, g50, g51, g52, g9, hL, g100, g99, d4, d2, hw, encO_cells, encC_cells, Nat.reduceAdd, Nat.reduceBEq, Nat.reduceEqDiff, Nat.reduceLeDiff, Nat.reduceLT, Nat.reduceSub]
          | simp (disch := omega) only [wrap_in, toNat_succ, toNat_pred, Int.toNat_natCast]
          | with_reducible refine And.intro (by omega) ?_
          | with_reducible refine exI (by omega) ?_
          | fail
        exact ha
  clear g0 g3 g5 g6 g7 gB gH
  rintro t d2 g52 g51 ⟨g0, g3, g5, g6, g7, gB, gH, g50, ha⟩
  rw [List.drop_length] at ha
  have hcl : ∀ o ∈ s.objs, o.cells.length ≤ 1099511627777 := by
    intro o hm
    have := List.all_eq_true.1 (ha.trans List.all_nil) o hm
    unfold ownR at this
    simp only [Bool.and_eq_true] at this
    exact goodC_len this.1.2
  rw [ha, List.all_nil, Bool.true_and] at hgs
  clear ha
  repeat' first
    | (with_reducible refine CondX.dec (fun c => ?_) (fun c => ?_)) <;> try (exfalso; omega)
    | (with_reducible refine CondX.beq (fun c => ?_) (fun c => ?_)) <;> try (exfalso; omega)
    | (with_reducible refine CondX.bne (fun c => ?_) (fun c => ?_)) <;> try (exfalso; omega)
    | (with_reducible refine CondX.bool (fun c => ?_) (fun c => ?_)) <;> try (exfalso; omega)
    | simp only [go_sem, I_eq, I_cells, T58, g0, g3, g5, g6, g7, gB, encS_cells, d2, g52, g51, g50, Nat.reduceAdd, Nat.reduceBEq, Nat.reduceEqDiff, Nat.reduceLeDiff, Nat.reduceLT, Nat.reduceSub]
    | simp (disch := omega) only [wrap_in, toNat_succ, toNat_pred, Int.toNat_natCast]
    | with_reducible refine And.intro (by omega) ?_
    | with_reducible refine exI (by omega) ?_
    | fail
  · exact ⟨by rw [hgs, beq_eq_false_iff_ne.2 (show s.edges.length ≠ (refNbr ps s.me).length by omega)]; rfl, gH⟩
  have hze : ((refNbr ps s.me).zip s.edges).length = s.edges.length := by simp; omega
  have hne : s.edges.length = (refNbr ps s.me).length := by omega
  rw [beq_iff_eq.2 hne, Bool.true_and] at hgs
  refine awp_count 126 125 s.edges.length (by omega) (fun i t => t.slots 0 = .l e 1 (ps.map I) ∧ t.slots 3 = .pt ⟨58, 3, h.cnt 58 3⟩ 0 0 0 ∧ t.slots 5 = .int .i64 ps.length ∧ t.slots 6 = .int .i64 s.objs.length ∧ t.slots 7 = .l false 1 ((refNbr ps s.me).map I) ∧ t.hp.con ⟨58, 3, h.cnt 58 3⟩ = .blk (encS s).cells ∧ Keeps h t.hp ∧ t.slots 124 = .l false 4 (s.edges.map encE) ∧ ((refNbr ps s.me).zip s.edges).all (edgeB ps.length s.objs.length) = (((refNbr ps s.me).zip s.edges).drop i).all (edgeB ps.length s.objs.length)) ?_ ?_ ?_ ?_ ?_
  · simp only [go_sem, I_eq, I_cells, Nat.reduceAdd, Nat.reduceBEq, Nat.reduceEqDiff, Nat.reduceLeDiff, Nat.reduceLT, Nat.reduceSub]
  · simp only [go_sem, I_eq, I_cells, Nat.reduceAdd, Nat.reduceBEq, Nat.reduceEqDiff, Nat.reduceLeDiff, Nat.reduceLT, Nat.reduceSub]
  · simp only [go_sem, I_eq, I_cells, T58, g0, g3, g5, g6, g7, gB, encS_cells, Nat.reduceAdd, Nat.reduceBEq, Nat.reduceEqDiff, Nat.reduceLeDiff, Nat.reduceLT, Nat.reduceSub]
    exact gH
  · clear g0 g3 g5 g6 g7 gB gH g50 g51 g52
    rintro i t hlt d2 hw g126 g125 ⟨g0, g3, g5, g6, g7, gB, gH, g124, ha⟩
    have hou := hu _ (List.getElem_mem hlt)
    have hlt2 : i < (refNbr ps s.me).length := by omega
    rw [drop_cons (by omega), List.all_cons] at ha
    simp only [List.getElem_zip, edgeB] at ha
    repeat' first
      | (with_reducible refine CondX.dec (fun c => ?_) (fun c => ?_)) <;> try (exfalso; omega)
      | (with_reducible refine CondX.beq (fun c => ?_) (fun c => ?_)) <;> try (exfalso; omega)
      | (with_reducible refine CondX.bne (fun c => ?_) (fun c => ?_)) <;> try (exfalso; omega)
      | (with_reducible refine CondX.bool (fun c => ?_) (fun c => ?_)) <;> try (exfalso; omega)
      | ((with_reducible refine CallX.id ?_); first | refine CallX.pure (f91_spec s.edges[i]) ?_)
      | ((with_reducible refine PureX.id ?_); first | refine PureX.of (f91_spec s.edges[i]) ?_)
      | simp only [go_sem, I_eq, I_cells, T58, g0, g3, g5, g6, g7, gB, encS_cells, g126, g125, g124, d2, hw, encE_cells, encE, Nat.reduceAdd, Nat.reduceBEq, Nat.reduceEqDiff, Nat.reduceLeDiff, Nat.reduceLT, Nat.reduceSub]
      | simp (disch := omega) only [wrap_in, toNat_succ, toNat_pred, Int.toNat_natCast]
      | with_reducible refine And.intro (by omega) ?_
      | with_reducible refine exI (by omega) ?_
      | fail
    · exact ⟨by rw [hgs, ha, beq_eq_false_iff_ne.2 c]; rfl, by ((repeat with_reducible apply Keeps.alloc); first | assumption | exact Keeps.refl _)⟩
    · rename_i c1
      rw [beq_iff_eq.2 c1, c, Bool.true_and, Bool.true_and] at ha
      refine awp_count 146 145 s.edges[i].out.length (by omega) (fun j t => t.slots 0 = .l e 1 (ps.map I) ∧ t.slots 3 = .pt ⟨58, 3, h.cnt 58 3⟩ 0 0 0 ∧ t.slots 5 = .int .i64 ps.length ∧ t.slots 6 = .int .i64 s.objs.length ∧ t.slots 7 = .l false 1 ((refNbr ps s.me).map I) ∧ t.hp.con ⟨58, 3, h.cnt 58 3⟩ = .blk (encS s).cells ∧ Keeps h t.hp ∧ t.slots 144 = .l false 5 (s.edges[i].out.map encM) ∧ t.slots 124 = .l false 4 (s.edges.map encE) ∧ t.slots 125 = .int .i64 s.edges.length ∧ t.slots 126 = .int .i64 i ∧ s.edges[i].out.all (meantB ps.length s.objs.length) = (s.edges[i].out.drop j).all (meantB ps.length s.objs.length)) ?_ ?_ ?_ ?_ ?_
      · simp only [go_sem, I_eq, I_cells, Nat.reduceAdd, Nat.reduceBEq, Nat.reduceEqDiff, Nat.reduceLeDiff, Nat.reduceLT, Nat.reduceSub]
      · simp only [go_sem, I_eq, I_cells, Nat.reduceAdd, Nat.reduceBEq, Nat.reduceEqDiff, Nat.reduceLeDiff, Nat.reduceLT, Nat.reduceSub]
      · simp only [go_sem, I_eq, I_cells, T58, g0, g3, g5, g6, g7, gB, encS_cells, g126, g125, g124, Nat.reduceAdd, Nat.reduceBEq, Nat.reduceEqDiff, Nat.reduceLeDiff, Nat.reduceLT, Nat.reduceSub]
        ((repeat with_reducible apply Keeps.alloc); first | assumption | exact Keeps.refl _)
      · clear g0 g3 g5 g6 g7 gB gH g126 g125 g124
        rintro j t hlj d3 hw2 g146 g145 ⟨g0, g3, g5, g6, g7, gB, gH, g144, g124, g125, g126, hb⟩
        rw [drop_cons hlj, List.all_cons] at hb
        repeat' first
          | (with_reducible refine CondX.dec (fun c => ?_) (fun c => ?_)) <;> try (exfalso; omega)
          | (with_reducible refine CondX.beq (fun c => ?_) (fun c => ?_)) <;> try (exfalso; omega)
          | (with_reducible refine CondX.bne (fun c => ?_) (fun c => ?_)) <;> try (exfalso; omega)
          | (with_reducible refine CondX.bool (fun c => ?_) (fun c => ?_)) <;> try (exfalso; omega)
          | ((with_reducible refine CallX.id ?_); first | refine CallX.pure (ref_Meant_spec _ _ s.edges[i].out[j]) ?_)
          | simp only [go_sem, I_eq, I_cells, T58, g0, g3, g5, g6, g7, gB, encS_cells, g146, g145, g144, g126, g125, g124, d3, hw2, encM_cells, Nat.reduceAdd, Nat.reduceBEq, Nat.reduceEqDiff, Nat.reduceLeDiff, Nat.reduceLT, Nat.reduceSub]
          | simp (disch := omega) only [wrap_in, toNat_succ, toNat_pred, Int.toNat_natCast]
          | with_reducible refine And.intro (by omega) ?_
          | with_reducible refine exI (by omega) ?_
          | fail
        · exact ⟨by ((repeat with_reducible apply Keeps.alloc); first | assumption | exact Keeps.refl _), by rw [hb, c, Bool.true_and]⟩
        · exact ⟨by rw [hgs, ha, hb, c]; rfl, by ((repeat with_reducible apply Keeps.alloc); first | assumption | exact Keeps.refl _)⟩
      · clear g0 g3 g5 g6 g7 gB gH g126 g125 g124
        rintro t d3 g146 g145 ⟨g0, g3, g5, g6, g7, gB, gH, g144, g124, g125, g126, hb⟩
        rw [List.drop_length, List.all_nil] at hb
        rw [hb, Bool.true_and] at ha
        repeat' first
          | (with_reducible refine CondX.dec (fun c => ?_) (fun c => ?_)) <;> try (exfalso; omega)
          | (with_reducible refine CondX.beq (fun c => ?_) (fun c => ?_)) <;> try (exfalso; omega)
          | (with_reducible refine CondX.bne (fun c => ?_) (fun c => ?_)) <;> try (exfalso; omega)
          | (with_reducible refine CondX.bool (fun c => ?_) (fun c => ?_)) <;> try (exfalso; omega)
          | simp only [go_sem, I_eq, I_cells, T58, g0, g3, g5, g6, g7, gB, encS_cells, g146, g145, g144, g126, g125, g124, d3, hw, Nat.reduceAdd, Nat.reduceBEq, Nat.reduceEqDiff, Nat.reduceLeDiff, Nat.reduceLT, Nat.reduceSub]
          | simp (disch := omega) only [wrap_in, toNat_succ, toNat_pred, Int.toNat_natCast]
          | with_reducible refine And.intro (by omega) ?_
          | with_reducible refine exI (by omega) ?_
          | fail
        exact ha
    · exact ⟨by rw [hgs, ha, c, Bool.and_false]; rfl, by ((repeat with_reducible apply Keeps.alloc); first | assumption | exact Keeps.refl _)⟩
  clear g0 g3 g5 g6 g7 gB gH g50 g51 g52
  rintro t d2 g126 g125 ⟨g0, g3, g5, g6, g7, gB, gH, g124, ha⟩
  rw [List.drop_eq_nil_of_le (by omega)] at ha
  rw [ha, List.all_nil, Bool.true_and] at hgs
  clear ha
  repeat' first
    | (with_reducible refine CondX.dec (fun c => ?_) (fun c => ?_)) <;> try (exfalso; omega)
    | (with_reducible refine CondX.beq (fun c => ?_) (fun c => ?_)) <;> try (exfalso; omega)
    | (with_reducible refine CondX.bne (fun c => ?_) (fun c => ?_)) <;> try (exfalso; omega)
    | (with_reducible refine CondX.bool (fun c => ?_) (fun c => ?_)) <;> try (exfalso; omega)
    | simp only [go_sem, I_eq, I_cells, T58, g0, g3, g5, g6, g7, gB, encS_cells, d2, g126, g125, g124, Nat.reduceAdd, Nat.reduceBEq, Nat.reduceEqDiff, Nat.reduceLeDiff, Nat.reduceLT, Nat.reduceSub]
    | simp (disch := omega) only [wrap_in, toNat_succ, toNat_pred, Int.toNat_natCast]
    | with_reducible refine And.intro (by omega) ?_
    | with_reducible refine exI (by omega) ?_
    | fail
  all_goals try exact ⟨by rw [hgs, decide_eq_false (show ¬ (0 ≤ s.asked ∧ s.asked ≤ 1099511627776) by omega)]; rfl, gH⟩
  all_goals try exact ⟨by rw [hgs, decide_eq_false (show ¬ (s.asks.length ≤ 4) by omega), Bool.and_false]; rfl, gH⟩
  all_goals try exact ⟨by rw [hgs, decide_eq_false (show ¬ (s.got.length ≤ 4) by omega), Bool.and_false]; rfl, gH⟩
  rw [decide_eq_true (show 0 ≤ s.asked ∧ s.asked ≤ 1099511627776 by omega), decide_eq_true (show s.asks.length ≤ 4 by omega), decide_eq_true (show s.got.length ≤ 4 by omega), Bool.true_and, Bool.true_and, Bool.true_and] at hgs
  refine awp_count 180 179 s.asks.length (by omega) (fun i t => t.slots 0 = .l e 1 (ps.map I) ∧ t.slots 3 = .pt ⟨58, 3, h.cnt 58 3⟩ 0 0 0 ∧ t.slots 5 = .int .i64 ps.length ∧ t.slots 6 = .int .i64 s.objs.length ∧ t.slots 7 = .l false 1 ((refNbr ps s.me).map I) ∧ t.hp.con ⟨58, 3, h.cnt 58 3⟩ = .blk (encS s).cells ∧ Keeps h t.hp ∧ t.slots 178 = .l false 2 (s.asks.map encA) ∧ asksR s.objs.length s.asked none s.asks = asksR s.objs.length s.asked (if i = 0 then none else s.asks[i - 1]?.map Ask.num) (s.asks.drop i)) ?_ ?_ ?_ ?_ ?_
  · simp only [go_sem, I_eq, I_cells, Nat.reduceAdd, Nat.reduceBEq, Nat.reduceEqDiff, Nat.reduceLeDiff, Nat.reduceLT, Nat.reduceSub]
  · simp only [go_sem, I_eq, I_cells, Nat.reduceAdd, Nat.reduceBEq, Nat.reduceEqDiff, Nat.reduceLeDiff, Nat.reduceLT, Nat.reduceSub]
  · simp only [go_sem, I_eq, I_cells, T58, g0, g3, g5, g6, g7, gB, encS_cells, Nat.reduceAdd, Nat.reduceBEq, Nat.reduceEqDiff, Nat.reduceLeDiff, Nat.reduceLT, Nat.reduceSub]
    exact gH
  · clear g0 g3 g5 g6 g7 gB gH g124 g125 g126
    rintro i t hlt d2 hw g180 g179 ⟨g0, g3, g5, g6, g7, gB, gH, g178, ha⟩
    have hwp : IntKind.i64.wrap ((i : Int) - 1) = (i : Int) - 1 := IntWalk.i64_in _ (by omega)
    rw [drop_cons hlt, asksR_cons] at ha
    have hq : (match (if i = 0 then none else s.asks[i - 1]?.map Ask.num) with | none => true | some q => decide (q < s.asks[i].num)) = decide (i = 0 ∨ s.asks[i - 1].num < s.asks[i].num) := by
      by_cases hi : i = 0
      · simp [hi]
      · simp [hi, List.getElem?_eq_getElem (show i - 1 < s.asks.length by omega)]
    rw [hq] at ha
    repeat' first
      | (with_reducible refine CondX.dec (fun c => ?_) (fun c => ?_)) <;> try (exfalso; omega)
      | (with_reducible refine CondX.beq (fun c => ?_) (fun c => ?_)) <;> try (exfalso; omega)
      | (with_reducible refine CondX.bne (fun c => ?_) (fun c => ?_)) <;> try (exfalso; omega)
      | (with_reducible refine CondX.bool (fun c => ?_) (fun c => ?_)) <;> try (exfalso; omega)
      | simp only [go_sem, I_eq, I_cells, T58, g0, g3, g5, g6, g7, gB, encS_cells, hwp, g180, g179, g178, d2, hw, encA_cells, Nat.reduceAdd, Nat.reduceBEq, Nat.reduceEqDiff, Nat.reduceLeDiff, Nat.reduceLT, Nat.reduceSub]
      | simp (disch := omega) only [wrap_in, toNat_succ, toNat_pred, Int.toNat_natCast]
      | with_reducible refine And.intro (by omega) ?_
      | with_reducible refine exI (by omega) ?_
      | fail
    all_goals first
      | exact ⟨by rw [hgs, ha, decide_eq_false (show ¬ (0 ≤ s.asks[i].obj ∧ s.asks[i].obj < s.objs.length) by omega)]; rfl, by ((repeat with_reducible apply Keeps.alloc); first | assumption | exact Keeps.refl _)⟩
      | exact ⟨by rw [hgs, ha, decide_eq_false (show ¬ (1 ≤ s.asks[i].num ∧ s.asks[i].num ≤ s.asked) by omega), Bool.and_false]; rfl, by ((repeat with_reducible apply Keeps.alloc); first | assumption | exact Keeps.refl _)⟩
      | exact ⟨by rw [hgs, ha, decide_eq_false (show ¬ (i = 0 ∨ s.asks[i - 1].num < s.asks[i].num) by omega), Bool.and_false]; rfl, by ((repeat with_reducible apply Keeps.alloc); first | assumption | exact Keeps.refl _)⟩
      | exact ⟨by ((repeat with_reducible apply Keeps.alloc); first | assumption | exact Keeps.refl _), by rw [ha, decide_eq_true (show 0 ≤ s.asks[i].obj ∧ s.asks[i].obj < s.objs.length by omega), decide_eq_true (show 1 ≤ s.asks[i].num ∧ s.asks[i].num ≤ s.asked by omega), decide_eq_true (show i = 0 ∨ s.asks[i - 1].num < s.asks[i].num by omega)]; simp [hlt]⟩
  clear g0 g3 g5 g6 g7 gB gH g124 g125 g126
  rintro t d2 g180 g179 ⟨g0, g3, g5, g6, g7, gB, gH, g178, ha⟩
  rw [List.drop_length, show asksR s.objs.length s.asked (if s.asks.length = 0 then none else s.asks[s.asks.length - 1]?.map Ask.num) [] = true by unfold asksR; rfl] at ha
  rw [ha, Bool.true_and] at hgs
  clear ha
  repeat' first
    | (with_reducible refine CondX.dec (fun c => ?_) (fun c => ?_)) <;> try (exfalso; omega)
    | (with_reducible refine CondX.beq (fun c => ?_) (fun c => ?_)) <;> try (exfalso; omega)
    | (with_reducible refine CondX.bne (fun c => ?_) (fun c => ?_)) <;> try (exfalso; omega)
    | (with_reducible refine CondX.bool (fun c => ?_) (fun c => ?_)) <;> try (exfalso; omega)
    | simp only [go_sem, I_eq, I_cells, T58, g0, g3, g5, g6, g7, gB, encS_cells, d2, g180, g179, g178, Nat.reduceAdd, Nat.reduceBEq, Nat.reduceEqDiff, Nat.reduceLeDiff, Nat.reduceLT, Nat.reduceSub]
    | simp (disch := omega) only [wrap_in, toNat_succ, toNat_pred, Int.toNat_natCast]
    | with_reducible refine And.intro (by omega) ?_
    | with_reducible refine exI (by omega) ?_
    | fail
  refine awp_count 226 225 s.got.length (by omega) (fun i t => t.slots 0 = .l e 1 (ps.map I) ∧ t.slots 3 = .pt ⟨58, 3, h.cnt 58 3⟩ 0 0 0 ∧ t.slots 5 = .int .i64 ps.length ∧ t.slots 6 = .int .i64 s.objs.length ∧ t.slots 7 = .l false 1 ((refNbr ps s.me).map I) ∧ t.hp.con ⟨58, 3, h.cnt 58 3⟩ = .blk (encS s).cells ∧ Keeps h t.hp ∧ t.slots 224 = .l false 3 (s.got.map encF) ∧ s.got.all (foundR ps.length s.objs.length s.asked) = (s.got.drop i).all (foundR ps.length s.objs.length s.asked)) ?_ ?_ ?_ ?_ ?_
  · simp only [go_sem, I_eq, I_cells, Nat.reduceAdd, Nat.reduceBEq, Nat.reduceEqDiff, Nat.reduceLeDiff, Nat.reduceLT, Nat.reduceSub]
  · simp only [go_sem, I_eq, I_cells, Nat.reduceAdd, Nat.reduceBEq, Nat.reduceEqDiff, Nat.reduceLeDiff, Nat.reduceLT, Nat.reduceSub]
  · simp only [go_sem, I_eq, I_cells, T58, g0, g3, g5, g6, g7, gB, encS_cells, Nat.reduceAdd, Nat.reduceBEq, Nat.reduceEqDiff, Nat.reduceLeDiff, Nat.reduceLT, Nat.reduceSub]
    exact gH
  · clear g0 g3 g5 g6 g7 gB gH g178 g180 g179
    rintro i t hlt d2 hw g226 g225 ⟨g0, g3, g5, g6, g7, gB, gH, g224, ha⟩
    rw [drop_cons hlt, List.all_cons, foundR] at ha
    repeat' first
      | (with_reducible refine CondX.dec (fun c => ?_) (fun c => ?_)) <;> try (exfalso; omega)
      | (with_reducible refine CondX.beq (fun c => ?_) (fun c => ?_)) <;> try (exfalso; omega)
      | (with_reducible refine CondX.bne (fun c => ?_) (fun c => ?_)) <;> try (exfalso; omega)
      | (with_reducible refine CondX.bool (fun c => ?_) (fun c => ?_)) <;> try (exfalso; omega)
      | simp only [go_sem, I_eq, I_cells, T58, g0, g3, g5, g6, g7, gB, encS_cells, g226, g225, g224, d2, hw, encF_cells, Nat.reduceAdd, Nat.reduceBEq, Nat.reduceEqDiff, Nat.reduceLeDiff, Nat.reduceLT, Nat.reduceSub]
      | simp (disch := omega) only [wrap_in, toNat_succ, toNat_pred, Int.toNat_natCast]
      | with_reducible refine And.intro (by omega) ?_
      | with_reducible refine exI (by omega) ?_
      | fail
    all_goals first
      | exact ⟨by rw [hgs, ha, decide_eq_false (show ¬ (0 ≤ s.got[i].obj ∧ s.got[i].obj < s.objs.length) by omega)]; rfl, by ((repeat with_reducible apply Keeps.alloc); first | assumption | exact Keeps.refl _)⟩
      | exact ⟨by rw [hgs, ha, decide_eq_false (show ¬ (1 ≤ s.got[i].num ∧ s.got[i].num ≤ s.asked) by omega), Bool.and_false]; rfl, by ((repeat with_reducible apply Keeps.alloc); first | assumption | exact Keeps.refl _)⟩
      | exact ⟨by rw [hgs, ha, decide_eq_false (show ¬ (0 ≤ s.got[i].where' ∧ s.got[i].where' < ps.length) by omega), Bool.and_false]; rfl, by ((repeat with_reducible apply Keeps.alloc); first | assumption | exact Keeps.refl _)⟩
      | exact ⟨by ((repeat with_reducible apply Keeps.alloc); first | assumption | exact Keeps.refl _), by rw [ha, decide_eq_true (show 0 ≤ s.got[i].obj ∧ s.got[i].obj < s.objs.length by omega), decide_eq_true (show 1 ≤ s.got[i].num ∧ s.got[i].num ≤ s.asked by omega), decide_eq_true (show 0 ≤ s.got[i].where' ∧ s.got[i].where' < ps.length by omega)]; rfl⟩
  clear g0 g3 g5 g6 g7 gB gH g178 g180 g179
  rintro t d2 g226 g225 ⟨g0, g3, g5, g6, g7, gB, gH, g224, ha⟩
  rw [List.drop_length, List.all_nil] at ha
  rw [ha, Bool.true_and] at hgs
  repeat' first
    | (with_reducible refine CondX.dec (fun c => ?_) (fun c => ?_)) <;> try (exfalso; omega)
    | (with_reducible refine CondX.beq (fun c => ?_) (fun c => ?_)) <;> try (exfalso; omega)
    | (with_reducible refine CondX.bne (fun c => ?_) (fun c => ?_)) <;> try (exfalso; omega)
    | (with_reducible refine CondX.bool (fun c => ?_) (fun c => ?_)) <;> try (exfalso; omega)
    | ((with_reducible refine CallX.id ?_); first | refine CallX.pure (ref_Open_spec s ho8 hcl) ?_)
    | simp only [go_sem, I_eq, I_cells, T58, g0, g3, g5, g6, g7, gB, encS_cells, d2, g226, g225, g224, Nat.reduceAdd, Nat.reduceBEq, Nat.reduceEqDiff, Nat.reduceLeDiff, Nat.reduceLT, Nat.reduceSub]
    | simp (disch := omega) only [wrap_in, toNat_succ, toNat_pred, Int.toNat_natCast]
    | with_reducible refine And.intro (by omega) ?_
    | with_reducible refine exI (by omega) ?_
    | fail
  exact ⟨by rw [hgs]; congr 1; rw [Bool.eq_iff_iff]; simp; omega, gH⟩
end Go.Proofs.Ytmajndgdfmnchaa
